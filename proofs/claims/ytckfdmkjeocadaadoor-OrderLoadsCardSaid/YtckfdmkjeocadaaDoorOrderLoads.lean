/- cavalcadelaw19.OrderLoads: what the call does. -/
import Derived.Test.YtckfdmkjeocadaaDoorMade
namespace Go.Proofs.YtckfdmkjeocadaaDoor
open Go.RowKit
set_option maxHeartbeats 4000000
set_option maxRecDepth 4000
/-- W' is W below B, but for block l -/
structure Kept (B l : Nat) (W W' : World) : Prop where
  os : W'.os = W.os
  tape : W'.tape = W.tape
  output : W'.output = W.output
  size : W.heap.size ≤ W'.heap.size
  block : ∀ k, k < B → k ≠ l → W'.heap[k]? = W.heap[k]?
theorem Kept.refl (B l : Nat) (W : World) : Kept B l W W := ⟨rfl, rfl, rfl, Nat.le_refl _, fun _ _ _ => rfl⟩
theorem Kept.turn {B l : Nat} {W W1 W2 : World} {sv : Value} (h : Kept B l W W1) (hT : LgTurn W1 W2 l sv) (ho : ∀ k, sv.ownBlock = some k → B ≤ k) (hB : B ≤ W1.heap.size) : Kept B l W W2 :=
  ⟨hT.os.trans h.os, hT.tape.trans h.tape, hT.output.trans h.output, Nat.le_trans h.size hT.size, fun k hk hl => (hT.block k (by omega) hl (fun e => by have := ho k e.symm; omega)).trans (h.block k hk hl)⟩
theorem Kept.next {B l : Nat} {W W1 W2 : World} (h : Kept B l W W1) (hb : Below W1.heap.size W1 W2) (hB : B ≤ W1.heap.size) : Kept B l W W2 :=
  ⟨hb.os.trans h.os, hb.tape.trans h.tape, hb.output.trans h.output, Nat.le_trans h.size hb.size, fun k hk hl => (hb.block k (by omega)).trans (h.block k hk hl)⟩
theorem Kept.below {B l B0 : Nat} {w W W' : World} (h : Kept B l W W') (hb : Below B0 w W) (h1 : B0 ≤ l) (h2 : B0 ≤ B) : Below B0 w W' :=
  ⟨h.os.trans hb.os, h.tape.trans hb.tape, h.output.trans hb.output, Nat.le_trans hb.size h.size, fun k hk => (h.block k (by omega) (by omega)).trans (hb.block k hk)⟩
theorem own_kept {W W' : World} {B l base n size : Nat} {e : TypeId} {v : Value} {xs : List Value} (h : W.ownsRow base e size v n xs) (hk : Kept B l W W') (ho : ∀ k, v.ownBlock = some k → k < B ∧ k ≠ l) : W'.ownsRow base e size v n xs := by
  refine ⟨h.1, ?_⟩
  rcases h.2 with h2 | ⟨g, cap, cur, h1, h2, h3, r⟩
  · exact .inl h2
  · exact .inr ⟨g, cap, cur, h1, h2, (hk.block g (ho g (by rw [h1]; rfl)).1 (ho g (by rw [h1]; rfl)).2).trans h3, r⟩
theorem LgAt.kept {W W' : World} {B l base l' : Nat} {sv : Value} {rs : List RC} {nx : List Int} (h : LgAt W base l' sv rs nx) (hk : Kept B l W W') (h1 : l' < B) (h2 : l' ≠ l) (ho : ∀ k, sv.ownBlock = some k → k < B ∧ k ≠ l) : LgAt W' base l' sv rs nx :=
  ⟨h.len, (hk.block _ h1 h2).trans h.row, own_kept h.own hk ho, h.wf, h.lt, h.small, h.nxb⟩
/-- a log without receipts owns nothing yet -/
theorem LgAt.rebase {W : World} {base l : Nat} {nx : List Int} (h : LgAt W base l (.slice none 0 0) [] nx) (B : Nat) (hB : l < B) : LgAt W B l (.slice none 0 0) [] nx := ⟨h.len, h.row, own_nil _ _ _ _, h.wf, hB, h.small, h.nxb⟩
theorem RcsAt.kept {W W' : World} {B l g off : Nat} {rs : List RC} (h : RcsAt W g off rs) (hk : Kept B l W W') (h1 : g < B) (h2 : g ≠ l) : RcsAt W' g off rs := by
  obtain ⟨cur, fr, h3, h4⟩ := h
  exact ⟨cur, fr, (hk.block _ h1 h2).trans h3, h4⟩
theorem ld_ok {rs : List RC} (h : Chain rs) {j : Nat} (hj : j < rs.length) : ldErr (rs.take j) (rs[j]'hj) = 0 ∧ loadRs (rs.take j) (rs[j]'hj) = rs.take (j + 1) := by
  have h1 := h j hj
  exact ⟨if_pos h1, by rw [loadRs, if_pos h1, List.take_succ_eq_append_getElem hj]⟩
theorem ld_no {rs : List RC} (h : Chain rs) {j k : Nat} (hj : j < rs.length) (hk : k < j) : ldErr (rs.take k) (rs[j]'hj) = 7 ∧ loadRs (rs.take k) (rs[j]'hj) = rs.take k := by
  have h1 := h.other hj hk
  exact ⟨if_neg h1, if_neg h1⟩
theorem wpList_load_mid_g {P : Program} {ops : Array Oper} {rest : List Oper} {o : Oper} {a : Act} {w : World} {Q : Exit → Act → World → Prop} (hw : Region.wanted o (yielded ops a.tmps) = true) (ty : TypeId) (x : Operand) (ho : o.op = .load ty x)
    (b f : Nat) (hx : a.eval x = .pointer (some ⟨b, f, none⟩)) (cs : List Value) (d : TypeDesc) (hc : w.rangeAt b f cs) (hu : P.underlying ty = some d) (hd : d.isRow = true) (hi : (P.info? ty).map (·.size) = some cs.length)
    (h : wpList P ops Q rest (a.put o.dst (.agg cs.toArray)) w) : wpList P ops Q (o :: rest) a w :=
  wpList_step fun K hK => by
    rw [if_pos hw]
    exact wp_load_mid ty x ho b f hx cs d hc hu hd hi (hK _ _ h)
theorem orderLoads_any (acts : List ACT) (v : Value) (s : Nat) (w : World) (hA : ActsAt w v acts) (hwf : ∀ a ∈ acts, a.wf) (hs : s < 256) (hR : RoundsAt w) :
    Calls Tryd.prog 10 #[v, .int .u8 s] w fun e w' => e = .returned (.bool true) ∧ Below w.heap.size w w' := by
  have HMD := Lib.hid (made_any acts v w hA hwf hR)
  have HR := Lib.hid hR
  clear hA hwf hR
  go_enter Tryd.func10, Tryd.ntmps10
  go_wp2_with fail
  refine HMD.out.mono ?_
  rintro e w1 ⟨sl, rs, rfl, hL1, hC, h40, hB1⟩
  have HC := Lib.hid hC
  have HL1 := Lib.hid hL1
  have HB1 := Lib.hid hB1
  clear hC hL1 hB1 HMD
  go_wp2_with fail
  refine (new_log _).mono ?_
  rintro e w2 ⟨rfl, hM2, hb2⟩
  have HL2 := Lib.hid (HL1.out.below hb2)
  have HB2 := Lib.hid (bw_call HB1.out hb2)
  have HM2 := Lib.hid hM2
  have HMW : Hid (w.heap.size < w1.heap.size ∧ w1.heap.size < w2.heap.size ∧ ∀ k, sl.ownBlock = some k → k < w1.heap.size) := show _ ∧ _ from ⟨HL1.out.lts.1, hM2.lts.1, HL1.out.lts.2⟩
  clear hb2 hM2 HL1
  go_wp2_with fail
  refine (new_log _).mono ?_
  rintro e w3 ⟨rfl, hN3, hb3⟩
  have HL3 := Lib.hid (HL2.out.below hb3)
  have HB3 := Lib.hid (bw_call HB2.out hb3)
  have HM3 := Lib.hid (HM2.out.below hb3)
  have HN3 := Lib.hid hN3
  have HNW : Hid (w2.heap.size < w3.heap.size) := show _ < _ from hN3.lts.1
  clear hb3 hN3 HL2 HM2
  go_wp2_with fail
  refine (awake19_any _ (HR.out.below HB3.out HR.out.1)).mono ?_
  rintro e w4 ⟨rfl, hb4⟩
  have HL4 := Lib.hid (HL3.out.below hb4)
  have HB4 := Lib.hid (bw_call HB3.out hb4)
  have HM4 := Lib.hid (HM3.out.below hb4)
  have HN4 := Lib.hid (HN3.out.below hb4)
  have HW4 : Hid (w3.heap.size ≤ w4.heap.size) := show _ ≤ _ from hb4.size
  clear hb4 HL3 HM3 HN3
  go_wp2_with fail
  refine (lfrom_any _ _ _ rs _ 0 _ HL4.out (by have := HL4.out.lts.1; omega)).mono ?_
  rintro e w5 ⟨⟨va, rfl, hO5⟩, hb5⟩
  rw [from_zero] at hO5
  have HL5 := Lib.hid (HL4.out.below hb5)
  have HB5 := Lib.hid (bw_call HB4.out hb5)
  have HN5 := Lib.hid (HN4.out.below hb5)
  have HSZ : Hid (w.heap.size < w1.heap.size ∧ w1.heap.size < w2.heap.size ∧ w2.heap.size < w5.heap.size ∧ (∀ k, sl.ownBlock = some k → k < w1.heap.size) ∧ (∀ k, va.ownBlock = some k → w2.heap.size < k ∧ k < w5.heap.size)) := show _ ∧ _ from by
    have h1 := HMW.out; have h2 := HNW.out; have h3 := HW4.out; have h4 := hb5.size
    refine ⟨h1.1, h1.2.1, by omega, h1.2.2, fun k hk => ?_⟩
    have := hO5.lt k hk
    omega
  have HM5 := Lib.hid ((HM4.out.below hb5).rebase w5.heap.size (by have := HSZ.out; omega))
  have HO5 := Lib.hid hO5
  obtain ⟨qa, ca, rfl, hqa⟩ := own_rcs2 hO5
  have HQA := Lib.hid hqa
  obtain ⟨n, hn⟩ : ∃ n, n = rs.length := ⟨_, rfl⟩
  have HON : Hid (w5.ownsRow w4.heap.size 61 68 (.slice qa n ca) rs.length (rcells rs)) := show World.ownsRow _ _ _ _ _ _ _ from by rw [hn]; exact hO5
  rw [← hn] at h40 HSZ ⊢
  have HN := Lib.hid hn
  clear hb5 hO5 hqa hn HL4 HM4 HN4 HMW HNW HW4 HO5
  go_wp2_with fail
  go_loopw [9] (fun i wr => ∃ (j : Nat) (sm : Value), j ≤ n ∧ i = .int .i64 j ∧ Hid (LgAt wr w5.heap.size w1.heap.size sm (rs.take j) (cnt (rs.take j))) ∧ Hid (Kept w5.heap.size w1.heap.size w5 wr)) (fun i _ => n - (intOf i).toNat)
  case atStart => exact ⟨0, .slice none 0 0, by omega, rfl, HM5, Kept.refl _ _ _⟩
  case round =>
    obtain ⟨j, sm, hj, rfl, HM, HK⟩ := hrel
    have HBr := Lib.hid (HK.out.below HB5.out (by have := HSZ.out; omega) (by have := HSZ.out; omega))
    by_cases hlt : j < n
    · have hl2 : j < rs.length := by have := HN.out; omega
      rcases HQA.out with h | ⟨g, rfl, hrow, -, -, -⟩
      · exact absurd hl2 (by rw [h]; simp)
      have hgs := HSZ.out.2.2.2.2 g rfl
      obtain ⟨cur, fr, hg, hat⟩ := (hrow.kept HK.out hgs.2 (by have := HSZ.out; omega)).one HL5.out.wf j hl2
      obtain ⟨r, hr⟩ : ∃ r, r = rs[j]'hl2 := ⟨_, rfl⟩
      rw [← hr] at hat
      have HRW : Hid r.wf := show _ from by rw [hr]; exact HL5.out.wf _ (List.getElem_mem hl2)
      have HRG : Hid (wr.rangeAt g (j * 68) r.cells) := show World.rangeAt _ _ _ _ from range_row hg (fun x v hv => by have := hat x v hv; rw [Nat.zero_add] at this; exact this)
      have HLD : Hid (ldErr (rs.take j) r = 0 ∧ loadRs (rs.take j) r = rs.take (j + 1)) := show _ ∧ _ from by rw [hr]; exact ld_ok HC.out hl2
      have f0 : (0 : Int) ≤ j := by omega
      have f1 : (j : Int) < n := by omega
      clear hrow hg hat hr hgs
      go_wp2_with (with_reducible refine wpList_load_mid rfl 61 (.tmp 41) rfl g (j * 68) rfl r.cells _ HRG.out Tryd.underlying61 rfl (rc_info HRW.out) ?_)
      refine (load_any w5.heap.size w1.heap.size sm (rs.take j) r _ HM.out HRW.out (HR.out.below HBr.out HR.out.1) (by rw [List.length_take]; omega) HK.out.size).mono ?_
      rintro e w6 ⟨rfl, ⟨sm6, hM6, -⟩, hT6⟩
      rw [HLD.out.2] at hM6
      rw [HLD.out.1]
      have HM6 := Lib.hid hM6
      have HK6 := Lib.hid (HK.out.turn hT6 (fun k hk => own_blk HM.out.own k hk) HK.out.size)
      clear hM6 hT6
      go_wp2_with fail
      go_roundw
      case rel => exact ⟨j + 1, sm6, by omega, by go_num, HM6, HK6⟩
      case measure => simp [intOf]; omega
    · obtain rfl : j = n := by omega
      have HMr : Hid (LgAt wr w5.heap.size w1.heap.size sm rs (cnt rs)) := show LgAt _ _ _ _ _ _ from by have := HM.out; rw [HN.out, List.take_length] at this; exact this
      have HLr := Lib.hid (HL5.out.kept HK.out (by have := HSZ.out; omega) (by have := HSZ.out; omega) (fun k hk => by have := HSZ.out.2.2.2.1 k hk; have := HSZ.out; omega))
      have HNr := Lib.hid (HN5.out.kept HK.out (by have := HSZ.out; omega) (by have := HSZ.out; omega) (fun k hk => by cases hk))
      have HOr := Lib.hid (own_kept HON.out HK.out (fun k hk => by have := HSZ.out.2.2.2.2 k hk; have := HSZ.out; omega))
      have HWF := Lib.hid HL5.out.wf
      have hsz5 := HK.out.size
      clear HM HK HM5 HL5 HN5 HON
      go_wp2_with fail
      refine (lfrom_any _ _ _ rs _ 0 _ HMr.out hsz5).mono ?_
      rintro e w6 ⟨⟨v6, rfl, hO6⟩, hb6⟩
      rw [from_zero] at hO6
      have HO6 := Lib.hid hO6
      have HB6 := Lib.hid (bw_call HBr.out hb6)
      have HL6 := Lib.hid (HLr.out.below hb6)
      have HM6 := Lib.hid (HMr.out.below hb6)
      have HN6 := Lib.hid (HNr.out.below hb6)
      have HOr6 := Lib.hid (own_below HOr.out hb6 (Nat.le_refl _))
      have hs6 := hb6.size
      clear hO6 hb6 HBr HLr HMr HNr HOr
      go_wp2_with fail
      refine (same_any _ _ v6 _ rs rs _ HO6.out HOr6.out HWF.out HWF.out (by have := HN.out; omega)).mono ?_
      rintro e w7 ⟨rfl, hb7⟩
      rw [decide_eq_true (rfl : rs = rs)]
      have HB7 := Lib.hid (bw_call HB6.out hb7)
      have HL7 := Lib.hid (HL6.out.below hb7)
      have HM7 := Lib.hid (HM6.out.below hb7)
      have HN7 := Lib.hid (HN6.out.below hb7)
      have HOr7 := Lib.hid (own_below HOr6.out hb7 (Nat.le_refl _))
      have hs7 := hb7.size
      clear hb7 HB6 HL6 HM6 HN6 HOr6 HO6
      go_wp2_with fail
      refine (head_any _ _ _ _ _ _ HM7.out).mono ?_
      rintro e w8 ⟨rfl, hb8⟩
      have HB8 := Lib.hid (bw_call HB7.out hb8)
      have HL8 := Lib.hid (HL7.out.below hb8)
      have HN8 := Lib.hid (HN7.out.below hb8)
      have HOr8 := Lib.hid (own_below HOr7.out hb8 (Nat.le_refl _))
      have hs8 := hb8.size
      clear hb8 HB7 HL7 HM7 HN7 HOr7
      go_wp2_with fail
      refine (head_any _ _ _ _ _ _ HL8.out).mono ?_
      rintro e w9 ⟨rfl, hb9⟩
      have HB9 := Lib.hid (bw_call HB8.out hb9)
      have HN9 := Lib.hid (HN8.out.below hb9)
      have HOr9 := Lib.hid (own_below HOr8.out hb9 (Nat.le_refl _))
      have hs9 := hb9.size
      have HHL : Hid ((headOf rs).length = 32) := show _ = _ from headOf_length HWF.out
      clear hb9 HB8 HL8 HN8 HOr8
      obtain ⟨hh, hhh⟩ : ∃ x, x = headOf rs := ⟨_, rfl⟩
      rw [← hhh] at HHL ⊢
      clear hhh
      by_cases hn0 : j = 0
      · subst hn0
        go_wp2_with ((with_reducible refine wpList_bin_g (by kernel_rfl) .neq 23 23 (.tmp 52) (.tmp 54) rfl (.agg (u8s hh).toArray) (.agg (u8s hh).toArray) (.bool !(decide (hh = hh))) rfl rfl (hash_eqG _ _ _ _ _ _) (hash_neq HHL.out HHL.out _) ?_); rw [decide_eq_true (rfl : hh = hh)])
        go_ret
        exact ⟨rfl, HB9.out⟩
      · have hb0 : ((j : Int) == 0) = false := by rw [beq_eq_false_iff_ne]; omega
        go_wp2_with ((with_reducible refine wpList_bin_g (by kernel_rfl) .neq 23 23 (.tmp 52) (.tmp 54) rfl (.agg (u8s hh).toArray) (.agg (u8s hh).toArray) (.bool !(decide (hh = hh))) rfl rfl (hash_eqG _ _ _ _ _ _) (hash_neq HHL.out HHL.out _) ?_); rw [decide_eq_true (rfl : hh = hh)])
        obtain ⟨k, hk1, hk2⟩ : ∃ k : Nat, (s : Int) % (j : Int) = (k : Int) ∧ k < j := ⟨s % j, by simp, Nat.mod_lt _ (by omega)⟩
        rw [hk1]
        have HND := Lib.hid (HN9.out.rebase w9.heap.size (by have := HSZ.out; omega))
        obtain ⟨q9, c9, e9, hq9⟩ := own_rcs2 HOr9.out
        injection e9 with e91 e92 e93
        subst e91
        have HQ9 := Lib.hid hq9
        have HS9 : Hid (w.heap.size < w2.heap.size ∧ w2.heap.size < w9.heap.size ∧ ∀ g, (Value.slice qa j ca).ownBlock = some g → w2.heap.size < g ∧ g < w9.heap.size) := show _ ∧ _ from by
          have h1 := HSZ.out
          refine ⟨by omega, by omega, fun g hg => ?_⟩
          have := h1.2.2.2.2 g hg
          omega
        clear hk1 hq9 e92 e93 HN9 HOr9 HQA hs6 hs7 hs8 hs9 hsz5 hb0 hn0
        go_loopw [11] (fun i wx => ∃ (x : Nat) (sn : Value), x ≤ j ∧ i = .int .i64 x ∧ Hid (LgAt wx w9.heap.size w2.heap.size sn (rs.take (min x k)) (cnt (rs.take (min x k)))) ∧ Hid (Kept w9.heap.size w2.heap.size w9 wx)) (fun i _ => j - (intOf i).toNat)
        case atStart => exact ⟨0, .slice none 0 0, by omega, rfl, by rw [Nat.zero_min]; exact HND, Kept.refl _ _ _⟩
        case round =>
          obtain ⟨x, sn, hx, rfl, HNX, HKX⟩ := hrel
          have HBx := Lib.hid (HKX.out.below HB9.out (by have := HS9.out; omega) (by have := HS9.out; omega))
          by_cases hlt2 : x < j
          · by_cases hxk : x = k
            · subst hxk
              have hd : ((x : Int) != (x : Int)) = false := by simp
              go_wp2_with fail
              go_roundw
              case rel => exact ⟨x + 1, sn, by omega, by go_num, by rw [show min (x + 1) x = min x x by omega]; exact HNX, HKX⟩
              case measure => simp [intOf]; omega
            · have hd : ((x : Int) != (k : Int)) = true := by rw [bne_iff_ne]; omega
              have hl2 : x < rs.length := by have := HN.out; omega
              rcases HQ9.out with h | ⟨g, rfl, hrow, -, -, -⟩
              · exact absurd hl2 (by rw [h]; simp)
              have hgs := HS9.out.2.2 g rfl
              obtain ⟨cur, fr, hg, hat⟩ := (hrow.kept HKX.out hgs.2 (by omega)).one HWF.out x hl2
              obtain ⟨r, hr⟩ : ∃ r, r = rs[x]'hl2 := ⟨_, rfl⟩
              rw [← hr] at hat
              have HRW : Hid r.wf := show _ from by rw [hr]; exact HWF.out _ (List.getElem_mem hl2)
              have HRG : Hid (wr.rangeAt g (x * 68) r.cells) := show World.rangeAt _ _ _ _ from range_row hg (fun y v hv => by have := hat y v hv; rw [Nat.zero_add] at this; exact this)
              have f0 : (0 : Int) ≤ x := by omega
              have f1 : (x : Int) < j := by omega
              by_cases hxlt : x < k
              · have HLD : Hid (ldErr (rs.take (min x k)) r = 0 ∧ loadRs (rs.take (min x k)) r = rs.take (min (x + 1) k)) := show _ ∧ _ from by rw [hr, show min x k = x by omega, show min (x + 1) k = x + 1 by omega]; exact ld_ok HC.out hl2
                have hd2 : decide ((x : Int) < k) = true := decide_eq_true (by omega)
                clear hrow hg hat hr hgs
                go_wp2_with (with_reducible refine wpList_load_mid_g (by kernel_rfl) 61 (.tmp 83) rfl g (x * 68) rfl r.cells _ HRG.out Tryd.underlying61 rfl (rc_info HRW.out) ?_)
                refine (load_any w9.heap.size w2.heap.size sn _ r _ HNX.out HRW.out (HR.out.below HBx.out HR.out.1) (by rw [List.length_take]; omega) HKX.out.size).mono ?_
                rintro e w10 ⟨rfl, ⟨sn10, hN10, -⟩, hT10⟩
                rw [HLD.out.2] at hN10
                rw [HLD.out.1]
                have HN10 := Lib.hid hN10
                have HK10 := Lib.hid (HKX.out.turn hT10 (fun k hk => own_blk HNX.out.own k hk) HKX.out.size)
                clear hN10 hT10
                go_wp2_with fail
                go_roundw
                case rel => exact ⟨x + 1, sn10, by omega, by go_num, HN10, HK10⟩
                case measure => simp [intOf]; omega
              · have HLD : Hid (ldErr (rs.take (min x k)) r = 7 ∧ loadRs (rs.take (min x k)) r = rs.take (min (x + 1) k)) := show _ ∧ _ from by rw [hr, show min x k = k by omega, show min (x + 1) k = k by omega]; exact ld_no HC.out hl2 (by omega)
                have hd2 : decide ((x : Int) < k) = false := decide_eq_false (by omega)
                clear hrow hg hat hr hgs
                go_wp2_with (with_reducible refine wpList_load_mid_g (by kernel_rfl) 61 (.tmp 83) rfl g (x * 68) rfl r.cells _ HRG.out Tryd.underlying61 rfl (rc_info HRW.out) ?_)
                refine (load_any w9.heap.size w2.heap.size sn _ r _ HNX.out HRW.out (HR.out.below HBx.out HR.out.1) (by rw [List.length_take]; omega) HKX.out.size).mono ?_
                rintro e w10 ⟨rfl, ⟨sn10, hN10, -⟩, hT10⟩
                rw [HLD.out.2] at hN10
                rw [HLD.out.1]
                have HN10 := Lib.hid hN10
                have HK10 := Lib.hid (HKX.out.turn hT10 (fun k hk => own_blk HNX.out.own k hk) HKX.out.size)
                clear hN10 hT10
                go_wp2_with fail
                go_roundw
                case rel => exact ⟨x + 1, sn10, by omega, by go_num, HN10, HK10⟩
                case measure => simp [intOf]; omega
          · have HLE : Hid ((rs.take (min x k)).length = k) := show _ = _ by rw [List.length_take]; have := HN.out; omega
            go_wp2_with fail
            refine (len_any _ _ _ _ _ _ HNX.out).mono ?_
            rintro e w10 ⟨rfl, rfl⟩
            rw [HLE.out]
            go_wp2_with fail
            go_ret
            exact ⟨rfl, HBx.out⟩
end Go.Proofs.YtckfdmkjeocadaaDoor
