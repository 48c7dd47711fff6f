/- The closure of order's from, and from: what the calls do. -/
import Derived.Test.YtckfdmkjeocadaaDoorLog
namespace Go.Proofs.YtckfdmkjeocadaaDoor
open Go.RowKit
set_option maxHeartbeats 2000000
set_option maxRecDepth 4000
theorem theirs_any (b4 b6 base l : Nat) (sv : Value) (rs : List RC) (nx : List Int) (body : ByteArray) (w : World) (h4 : w.heap[b4]? = some (.cells #[.pointer (some ⟨l, 0, none⟩)] 55 (0, 0))) (h6 : w.heap[b6]? = some (.cells #[.string body] 9 (0, 0)))
    (hL : LgAt w base l sv rs nx) (hs : body.size ≤ 140737488351232) (hR : RoundsAt w) :
    Calls Tryd.prog 108 #[.pointer (some ⟨b6, 0, none⟩), .pointer (some ⟨b4, 0, none⟩)] w fun e w' => e = .returned (.tuple #[.int .i64 (theirs nx body).1, .int .i64 (theirs nx body).2]) ∧ Below w.heap.size w w' := by
  have HL := Lib.hid hL
  have HR := Lib.hid hR
  have H4 := Lib.hid h4
  have c6 := cell_of_one h6
  have hs2 : body.size ≤ 140737488355328 := by omega
  obtain ⟨q, hq⟩ : ∃ q, q = theirs nx body := ⟨_, rfl⟩
  rw [← hq]
  have HQ := Lib.hid hq
  clear hL hR h4 h6 hq
  cases hr : rdTx body with
  | error x =>
    have HRD := Lib.hid hr
    have hx0 : (x != 0) = true := rdTx_err hr
    have HQ2 : Hid (q = (0, 6)) := show _ = _ by rw [HQ.out, theirs, hr]
    clear hr
    go_enter Tryd.func108, Tryd.ntmps108
    go_wp2_with fail
    refine (read_any body _ hs2).mono ?_
    rintro e w1 ⟨rfl, hb1⟩
    rw [HRD.out]
    simp only [txOf, errOf]
    have hz1 : (w1.alloc (.cells Tryd.zeroCells25 25)).heap[w1.heap.size]? = some (.cells zlTx.toArray 25 (0, 0)) := heap_alloc_new w1 _
    have HB1 := Lib.hid (bw_alloc hb1 (.cells Tryd.zeroCells25 25))
    have hle := hb1.size
    clear hb1 c6
    go_wp2_with ((with_reducible refine wpList_store_whole rfl 25 (.tmp 4) (.tmp 9) rfl w1.heap.size TX.zero.cells zlTx 25 rfl rfl hz1 rfl (tx_info TX.zero_wf) (start_one _) ?_); intro w2 hU2)
    go_ret2
    exact ⟨by rw [HQ2.out]; rfl, hU2.out.below HB1.out hle⟩
  | ok t =>
    have HRD := Lib.hid hr
    obtain ⟨htw, htc, hst⟩ := tx_back hr
    obtain ⟨⟨⟨⟨z1, z2⟩, z3⟩, z4⟩, hrest⟩ := TX.chk_zero htc
    have HT := Lib.hid htw
    have HTL : Hid (t.cells.length = zlTx.length) := show _ = _ from t.cells_length HT.out.by_ HT.out.tag
    have HQ1 : Hid (q = if t.signed = 0 then (if t.nonce = nx.getD t.frm.toNat 0 then (t.frm, 0) else (0, 22)) else (0, 21)) := show _ = _ by rw [HQ.out, theirs, hr]
    obtain ⟨sg, hsg⟩ : ∃ s, s = t.signed := ⟨_, rfl⟩
    rw [← hsg] at HQ1
    have HSG := Lib.hid hsg
    clear hr hst hrest htw htc hsg
    go_enter Tryd.func108, Tryd.ntmps108
    go_wp2_with fail
    refine (read_any body _ hs2).mono ?_
    rintro e w1 ⟨rfl, hb1⟩
    rw [HRD.out]
    simp only [txOf, errOf]
    have hz1 : (w1.alloc (.cells Tryd.zeroCells25 25)).heap[w1.heap.size]? = some (.cells zlTx.toArray 25 (0, 0)) := heap_alloc_new w1 _
    have HB1 := Lib.hid (bw_alloc hb1 (.cells Tryd.zeroCells25 25))
    have hle := hb1.size
    clear hb1 c6
    go_wp2_with (first
      | ((with_reducible refine wpList_store_whole rfl 25 (.tmp 4) (.tmp 9) rfl w1.heap.size t.cells zlTx 25 rfl rfl hz1 HTL.out (tx_info HT.out) (start_one _) ?_); intro w2 hU2; have hT2 := hU2.out.at_; have HB2 := Lib.hid (hU2.out.below HB1.out hle); clear hz1)
      | (with_reducible refine wpList_load_rows rfl 25 (.tmp 4) rfl w1.heap.size 0 t.cells t.cells 25 (0, 0) _ rfl hT2 id_at Tryd.underlying25 rfl (tx_info HT.out) ?_))
    refine (signed_any t _ HT.out (HR.out.below HB2.out HR.out.1)).mono ?_
    rintro e w3 ⟨rfl, hb3⟩
    rw [← HSG.out]
    have hT3 := (hb3.block _ (block_lt hT2)).trans hT2
    have HB3 := Lib.hid (bw_call HB2.out hb3)
    have HL3 := Lib.hid (HL.out.below HB3.out)
    have c4 : w3.cell? ⟨b4, 0, none⟩ = some (.pointer (some ⟨l, 0, none⟩)) := cell_of_one ((HB3.out.block _ (block_lt H4.out)).trans H4.out)
    clear hb3 hT2
    generalize w1.heap.size = b1 at *
    by_cases hs0 : sg = 0
    · subst hs0
      obtain ⟨fr, hfr⟩ : ∃ fr : Nat, t.frm = (fr : Int) := ⟨t.frm.toNat, by omega⟩
      have hfr64 : fr < 64 := by omega
      obtain ⟨nn, hnn⟩ : ∃ x, x = nx.getD fr 0 := ⟨_, rfl⟩
      have k0 : w3.cell? ⟨b1, 0, none⟩ = some (.int .i64 fr) := by rw [← hfr, cell_of_row w3 b1 0 _ _ _ hT3]; rfl
      have k1 : w3.cell? ⟨b1, 1, none⟩ = some (.int .i64 t.nonce) := by rw [cell_of_row w3 b1 1 _ _ _ hT3]; rfl
      have g1 : w3.cell? ⟨l, 1 + fr, none⟩ = some (.int .i64 nn) := by rw [hnn]; exact HL3.out.cn hfr64
      have f0 : (0 : Int) ≤ fr := by omega
      have f1 : (fr : Int) < 64 := by omega
      have HQ2 : Hid (q = if t.nonce = nn then ((fr : Int), 0) else (0, 22)) := show _ = _ by rw [HQ1.out, if_pos rfl, hnn, hfr]; rfl
      clear hnn hfr z1 z2 z3 z4
      by_cases hn : t.nonce = nn
      · have hd : (t.nonce != nn) = false := by simpa using hn
        have HQ3 : Hid (q = ((fr : Int), 0)) := show _ = _ by rw [HQ2.out, if_pos hn]
        clear hn
        go_wp2_with fail
        go_quiet (fail)
        have hb4 := bw_drewN HB3.out nq
        have HB4 := Lib.hid hb4
        have k0 : (w3.drewN nq).cell? ⟨b1, 0, none⟩ = some (.int .i64 fr) := k0
        go_wp2_with fail
        go_ret2
        exact ⟨by rw [HQ3.out]; rfl, HB4.out⟩
      · have hd : (t.nonce != nn) = true := by simpa using hn
        have HQ3 : Hid (q = (0, 22)) := show _ = _ by rw [HQ2.out, if_neg hn]
        clear hn
        go_wp2_with fail
        go_quiet (fail)
        have hb4 := bw_drewN HB3.out nq
        have HB4 := Lib.hid hb4
        go_wp2_with fail
        go_ret2
        exact ⟨by rw [HQ3.out]; rfl, HB4.out⟩
    · have hd : (sg != 0) = true := by simpa using hs0
      have HQ2 : Hid (q = (0, 21)) := show _ = _ by rw [HQ1.out, if_neg hs0]
      go_wp2_with fail
      go_ret2
      exact ⟨by rw [HQ2.out]; rfl, HB3.out⟩
theorem from_any (base l : Nat) (sv : Value) (rs : List RC) (nx : List Int) (kind : Int) (body : ByteArray) (time : Int) (w : World) (hL : LgAt w base l sv rs nx) (hs : body.size ≤ 140737488351232) (hR : RoundsAt w) :
    Calls Tryd.prog 103 #[.pointer (some ⟨l, 0, none⟩), .int .i64 kind, .string body, .int .i64 time] w fun e w' => e = .returned (.tuple #[.int .i64 (fromOf rs nx kind body time).1, .int .i64 (fromOf rs nx kind body time).2]) ∧ Below w.heap.size w w' := by
  have hB0 := bw_alloc (bw_alloc (Below.refl w.heap.size w) (.cells #[.pointer (some ⟨l, 0, none⟩)] 55)) (.cells #[.string body] 9)
  have hL0 := hL.below hB0
  have h4 : ((w.alloc (.cells #[.pointer (some ⟨l, 0, none⟩)] 55)).alloc (.cells #[.string body] 9)).heap[w.heap.size]? = some (.cells #[.pointer (some ⟨l, 0, none⟩)] 55 (0, 0)) := (Below.heap_alloc _ _ _ (by simp)).trans (heap_alloc_new w _)
  have h6 : ((w.alloc (.cells #[.pointer (some ⟨l, 0, none⟩)] 55)).alloc (.cells #[.string body] 9)).heap[w.heap.size + 1]? = some (.cells #[.string body] 9 (0, 0)) := heap_alloc2_new w _ _
  have HTH := Lib.hid (theirs_any w.heap.size (w.heap.size + 1) base l sv rs nx body _ h4 h6 hL0 hs (hR.below hB0 hR.1))
  have HB0 := Lib.hid hB0
  have c4 := cell_of_one h4
  have c0 := hL0.c0
  obtain ⟨q, hq⟩ : ∃ q, q = fromOf rs nx kind body time := ⟨_, rfl⟩
  rw [← hq]
  have HQ := Lib.hid hq
  have hsh : ∃ q c, sv = .slice q rs.length c := by
    rcases hL.own.2 with ⟨h1, h2⟩ | ⟨g, cap, cur, h1, _⟩
    · exact ⟨none, 0, by rw [h1, h2]⟩
    · exact ⟨_, _, h1⟩
  by_cases hm0 : rs.length = 0
  · have HQ1 : Hid (q = if kind = 1 then theirs nx body else (-1, 0)) := show _ = _ by
      rw [HQ.out, fromOf, isLate, List.length_eq_zero_iff.1 hm0]
      rfl
    obtain ⟨sq, sc, rfl⟩ := hsh
    rw [hm0] at c0
    by_cases hk : kind = 1
    · have HQ2 : Hid (q = theirs nx body) := show _ = _ by rw [HQ1.out, if_pos hk]
      have hd : (kind == 1) = true := by simpa using hk
      clear hL hR hL0 hB0 h4 h6 hq hm0 hk
      go_enter Tryd.func103, Tryd.ntmps103
      go_wp2_with fail
      refine HTH.out.mono ?_
      rintro e w1 ⟨rfl, hb1⟩
      have HB1 := Lib.hid (bw_call HB0.out hb1)
      clear hb1
      go_wp2_with fail
      go_ret2
      exact ⟨by rw [HQ2.out]; rfl, HB1.out⟩
    · have HQ2 : Hid (q = (-1, 0)) := show _ = _ by rw [HQ1.out, if_neg hk]
      have hd : (kind == 1) = false := by simpa using hk
      clear hL hR hL0 hB0 h4 h6 hq hm0 hk
      go_enter Tryd.func103, Tryd.ntmps103
      go_wp2_with fail
      go_ret2
      exact ⟨by rw [HQ2.out]; rfl, HB0.out⟩
  · clear hsh
    rcases hL0.at_ with ⟨_, h2⟩ | ⟨g, cap, cur, rfl, hg1, hg2, hcap, hg, hat⟩
    · exact absurd (by rw [h2]; rfl) hm0
    · obtain ⟨m, hm⟩ : ∃ m, m = rs.length := ⟨_, rfl⟩
      obtain ⟨n, hn2⟩ : ∃ n, m = n + 1 := ⟨m - 1, by omega⟩
      rw [← hm] at c0
      have hsm := hL.small
      have hd0 : decide ((0 : Int) < m) = true := decide_eq_true (by omega)
      have e1 : IntKind.i64.wrap ((m : Int) - 1) = (n : Int) := by rw [show (m : Int) - 1 = n by omega]; exact IntWalk.i64_in _ (by omega)
      have f0 : (0 : Int) ≤ n := by omega
      have f1 : (n : Int) < m := by omega
      have hnl : n < rs.length := by omega
      obtain ⟨r, hr⟩ : ∃ r, r = rs[n]'hnl := ⟨_, rfl⟩
      have ct : ((w.alloc (.cells #[.pointer (some ⟨l, 0, none⟩)] 55)).alloc (.cells #[.string body] 9)).cell? ⟨g, n * 68 + 2, none⟩ = some (.int .i64 r.time) := by
        rw [cell_of_row _ g _ _ _ _ hg, List.getElem?_toArray]
        exact hat n hnl 2 _ (by rw [← hr]; rfl)
      have HQ0 : Hid (q = if decide (time < r.time) = true then (0, 33) else if kind = 1 then theirs nx body else (-1, 0)) := show _ = _ by
        rw [HQ.out, fromOf, isLate, show rs.length - 1 = n by omega, List.getElem?_eq_getElem hnl, hr]
      have HM := Lib.hid hm
      clear hL hR hL0 hB0 h4 h6 hq hm hm0 hn2 hsm hat hr hnl hg hcap
      by_cases hlt : time < r.time
      · have HQ2 : Hid (q = (0, 33)) := show _ = _ by rw [HQ0.out, if_pos (decide_eq_true hlt)]
        have hd : decide (time < r.time) = true := decide_eq_true hlt
        clear hlt
        go_enter Tryd.func103, Tryd.ntmps103
        go_wp2_with fail
        go_ret2
        exact ⟨by rw [HQ2.out]; rfl, HB0.out⟩
      · have HQ1 : Hid (q = if kind = 1 then theirs nx body else (-1, 0)) := show _ = _ by rw [HQ0.out, if_neg (by simpa using hlt)]
        have hd : decide (time < r.time) = false := decide_eq_false hlt
        clear hlt
        by_cases hk : kind = 1
        · have HQ2 : Hid (q = theirs nx body) := show _ = _ by rw [HQ1.out, if_pos hk]
          have hd : (kind == 1) = true := by simpa using hk
          clear hk
          go_enter Tryd.func103, Tryd.ntmps103
          go_wp2_with fail
          refine HTH.out.mono ?_
          rintro e w1 ⟨rfl, hb1⟩
          have HB1 := Lib.hid (bw_call HB0.out hb1)
          clear hb1
          go_wp2_with fail
          go_ret2
          exact ⟨by rw [HQ2.out]; rfl, HB1.out⟩
        · have HQ2 : Hid (q = (-1, 0)) := show _ = _ by rw [HQ1.out, if_neg hk]
          have hd : (kind == 1) = false := by simpa using hk
          clear hk
          go_enter Tryd.func103, Tryd.ntmps103
          go_wp2_with fail
          go_ret2
          exact ⟨by rw [HQ2.out]; rfl, HB0.out⟩
theorem from_nil (kind : Int) (body : ByteArray) (time : Int) (w : World) :
    Calls Tryd.prog 103 #[.pointer none, .int .i64 kind, .string body, .int .i64 time] w fun e w' => e = .returned (.tuple #[.int .i64 0, .int .i64 1]) ∧ Below w.heap.size w w' := by
  have HB0 := Lib.hid (bw_alloc (bw_alloc (Below.refl w.heap.size w) (.cells #[.pointer none] 55)) (.cells #[.string body] 9))
  have c4 : ((w.alloc (.cells #[.pointer none] 55)).alloc (.cells #[.string body] 9)).cell? ⟨w.heap.size, 0, none⟩ = some (.pointer none) := cell_of_one ((Below.heap_alloc _ _ _ (by simp)).trans (heap_alloc_new w _))
  go_enter Tryd.func103, Tryd.ntmps103
  go_wp2_with fail
  go_ret2
  exact ⟨rfl, HB0.out⟩
end Go.Proofs.YtckfdmkjeocadaaDoor
