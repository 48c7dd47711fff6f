/- disk: done, Sync, Arm, Remove: what the calls do. -/
import Derived.Test.YtopdhefhagckoaaDkOps
namespace Go.Proofs.Ytopdhefhagckoaa
open Go.RowKit
set_option maxHeartbeats 2000000
set_option maxRecDepth 4000
theorem done_any {N : Nat} {w : World} {bd bm : Nat} {pl : List FB} {left : Option Nat} (W : World) (h : DkAt N w W bd bm pl left) (hl : left ≠ some 0) :
    Calls Try.prog 28 #[.pointer (some ⟨bd, 0, none⟩)] W fun e w' => e = .returned (.int .i64 0) ∧ DkAt N w w' bd bm pl (left.map fun k => k - 1) ∧ Turn W w' (fun k => k = bd) := by
  obtain ⟨z, hz, hd⟩ := h.d
  have k2 : W.cell? ⟨bd, 2, none⟩ = some (.int .i64 z) := by rw [cell_of_row W bd 2 _ _ _ hd]; rfl
  have hz' : ∀ k : Nat, left.map (fun k => k - 1) = some k → IntKind.i64.wrap (z - 1) = (k : Int) ∧ k ≤ 9223372036854775807 := by
    intro k hk
    cases left with
    | none => cases hk
    | some j =>
      obtain ⟨rfl, hj⟩ := hz j rfl
      have hj0 : j ≠ 0 := fun e => hl (by rw [e])
      have : j - 1 = k := Option.some.inj hk
      rw [IntWalk.i64_in _ (by omega)]
      omega
  obtain ⟨z1, e1⟩ : ∃ z1, IntKind.i64.wrap (z - 1) = z1 := ⟨_, rfl⟩
  rw [e1] at hz'
  have hrow := set_row (i := 2) (cs := [.map (some bm), .bool left.isSome, .int .i64 z]) hd (.int .i64 (z1))
  have hT := Turn.set W bd 2 (.int .i64 (z1))
  have hr2 : (W.setCell ⟨bd, 2, none⟩ (.int .i64 (z1))).heap[bd]? = some (.cells #[.map (some bm), .bool (left.map fun k => k - 1).isSome, .int .i64 (z1)] 53 (0, 0)) := by
    rw [hrow, Option.isSome_map]; rfl
  have HD := Lib.hid (h.setd hz' hT hr2)
  have HT := Lib.hid hT
  have cz : W.frozen? ⟨bd, 2, none⟩ = false := frozen_of_row W bd 2 _ _ hd
  clear hz hz' hd hrow hT hr2 h hl
  go_enter Try.func28, Try.ntmps28
  go_wp2_with fail
  go_ret
  exact ⟨rfl, HD.out, HT.out⟩
/-- how the turned disk is found again -/
structure DkTo (N : Nat) (w W W' : World) (bd bm : Nat) (pl : List FB) (d' : DS) : Prop where
  to' : ∃ pl' left', DkAt N w W' bd bm pl' left' ∧ stOf pl' left' = d' ∧ ∀ p ∈ pl', W.heap.size ≤ p.2 ∨ ∃ q ∈ pl, q.2 = p.2
  turn : Turn W W' (Its bd bm pl)
theorem up_left {pl : List FB} {left : Option Nat} (h : (stOf pl left).down = false) : left ≠ some 0 := by
  intro e
  rw [e] at h
  cases h
theorem put_st (x : FB) (pl : List FB) (left : Option Nat) : (stOf pl left).did (putN FE.nm x.1 (stOf pl left).fs) = stOf (putN fnm x pl) (left.map fun k => k - 1) := by
  show DS.mk _ _ = DS.mk _ _
  rw [show files (putN fnm x pl) = putN FE.nm x.1 (files pl) from putN_map (nm := fnm) (nm' := FE.nm) (fun _ => rfl) x pl]
  rfl
theorem sync_any {N : Nat} {w : World} {bd bm : Nat} {pl : List FB} {left : Option Nat} (W : World) (h : DkAt N w W bd bm pl left) (s : ByteArray) (hs : s.size ≤ 140737488355328) :
    Calls Try.prog 13 #[.pointer (some ⟨bd, 0, none⟩), .string s] W fun e w' => e = .returned (.int .i64 ((stOf pl left).sync s.data.toList).2) ∧ DkTo N w W w' bd bm pl ((stOf pl left).sync s.data.toList).1 := by
  have HC := Lib.hid (find_any W h s hs)
  cases hr : fnd pl left s.data.toList with
  | mk o k =>
    rw [hr] at HC
    cases o with
    | none =>
      have hk : (k == 0) = false := by rw [beq_eq_false_iff_ne]; exact fnd_none hr
      have hsp : (stOf pl left).sync s.data.toList = (stOf pl left, k) := by
        unfold fnd at hr
        unfold DS.sync
        split at hr
        · rename_i hd; rw [if_pos hd]; cases hr; rfl
        · rename_i hd
          rw [if_neg hd, find_st]
          cases hf : findN fnm s.data.toList pl with
          | none => rw [hf] at hr; cases hr; rfl
          | some q => rw [hf] at hr; cases hr
      rw [hsp]
      have HD : Hid (DkTo N w W W bd bm pl (stOf pl left)) := show DkTo _ _ _ _ _ _ _ _ from ⟨⟨pl, left, h, rfl, fun p hp => .inr ⟨p, hp, rfl⟩⟩, Turn.refl _ _⟩
      clear hr h hsp
      go_enter Try.func13, Try.ntmps13
      go_wp2_with fail
      refine HC.out.mono ?_
      rintro e w1 ⟨rfl, rfl⟩
      go_wp2_with fail
      go_ret
      exact ⟨rfl, HD.out⟩
    | some p =>
      obtain ⟨hp, rfl, hn, hd, hf⟩ := fnd_mem hr
      have kb := h.fb hp
      have ks := h.fs hp
      have HC' : Hid (Calls Try.prog 29 #[.pointer (some ⟨bd, 0, none⟩), .string s] W fun e w' => e = .returned (.tuple #[.pointer (some ⟨p.2, 0, none⟩), .int .i64 0]) ∧ w' = W) := HC
      have hsp : (stOf pl left).sync s.data.toList = ((stOf pl left).did (putN FE.nm { p.1 with safe := p.1.b.size } (stOf pl left).fs), 0) := by
        unfold DS.sync
        rw [hd, if_neg (by decide), find_st, hf]
        rfl
      rw [hsp, put_st ({ p.1 with safe := p.1.b.size }, p.2)]
      have hok := h.wf.files p.1 (List.mem_map.2 ⟨p, hp, rfl⟩)
      have hT := Turn.set W p.2 1 (.int .i64 (p.1.b.size : Int))
      have hrow := set_row (i := 1) (cs := [.string p.1.b, .int .i64 (p.1.safe : Int)]) (h.f p hp) (.int .i64 (p.1.b.size : Int))
      have HD1 := Lib.hid (h.upd (y := { p.1 with safe := p.1.b.size }) hp rfl ⟨hok.1, Nat.le_refl _, hok.2.2⟩ hT hrow)
      have HT := Lib.hid hT
      have cz : W.frozen? ⟨p.2, 1, none⟩ = false := frozen_of_row W p.2 1 _ _ (h.f p hp)
      have HN := Lib.hid (done_any _ HD1.out (up_left hd))
      have HM : Hid (∀ q, q ∈ putN fnm ({ p.1 with safe := p.1.b.size }, p.2) pl → q = ({ p.1 with safe := p.1.b.size }, p.2) ∨ q ∈ pl) := show ∀ q, _ from fun q hq => mem_putN hq
      have HP := Lib.hid hp
      clear hr h HC hn hd hf hsp hok hT hrow hp
      go_enter Try.func13, Try.ntmps13
      go_wp2_with fail
      refine HC'.out.mono ?_
      rintro e w1 ⟨rfl, rfl⟩
      go_wp2_with fail
      refine HN.out.mono ?_
      rintro e w2 ⟨rfl, hD2, hT2⟩
      have HD2 := Lib.hid hD2
      have HT2 := Lib.hid hT2
      clear hD2 hT2
      go_wp2_with fail
      go_ret
      refine ⟨rfl, ⟨⟨_, _, HD2.out, rfl, fun q hq => ?_⟩, (HT.out.mono fun k _ e => .inr (.inr ⟨p, HP.out, e.symm⟩)).trans HT2.out fun k _ e => .inl e⟩⟩
      rcases HM.out q hq with rfl | hq
      · exact .inr ⟨p, HP.out, rfl⟩
      · exact .inr ⟨q, hq, rfl⟩
theorem arm_any {N : Nat} {w : World} {bd bm : Nat} {pl : List FB} {left : Option Nat} (W : World) (h : DkAt N w W bd bm pl left) (n : Int) (hn : n ≤ 9223372036854775807) :
    Calls Try.prog 10 #[.pointer (some ⟨bd, 0, none⟩), .int .i64 n] W fun e w' => e = .returned (.int .i64 ((stOf pl left).arm n).2) ∧ DkTo N w W w' bd bm pl ((stOf pl left).arm n).1 := by
  have HC := Lib.hid (wrong_any W h)
  have HD : Hid (DkTo N w W W bd bm pl (stOf pl left)) := show DkTo _ _ _ _ _ _ _ _ from ⟨⟨pl, left, h, rfl, fun p hp => .inr ⟨p, hp, rfl⟩⟩, Turn.refl _ _⟩
  cases hr : (stOf pl left).down
  · rw [hr] at HC
    by_cases h0 : n < 0
    · have d0 : decide (n < 0) = true := decide_eq_true h0
      have hsp : (stOf pl left).arm n = (stOf pl left, 2) := by unfold DS.arm; rw [hr, if_neg (by decide), if_pos h0]
      rw [hsp]
      clear hr h hsp h0
      go_enter Try.func10, Try.ntmps10
      go_wp2_with fail
      refine HC.out.mono ?_
      rintro e w1 ⟨rfl, rfl⟩
      go_wp2_with fail
      go_ret
      exact ⟨rfl, HD.out⟩
    · have d0 : decide (n < 0) = false := decide_eq_false h0
      have hsp : (stOf pl left).arm n = (stOf pl (some n.toNat), 0) := by unfold DS.arm; rw [hr, if_neg (by decide), if_neg h0]; rfl
      rw [hsp]
      obtain ⟨z, hz, hd⟩ := h.d
      have cz1 : W.frozen? ⟨bd, 1, none⟩ = false := frozen_of_row W bd 1 _ _ hd
      have hrow1 := set_row (i := 1) (cs := [.map (some bm), .bool left.isSome, .int .i64 z]) hd (.bool true)
      have cz2 : (W.setCell ⟨bd, 1, none⟩ (.bool true)).frozen? ⟨bd, 2, none⟩ = false := frozen_of_row _ bd 2 _ _ hrow1
      have k1 : W.cell? ⟨bd, 1, none⟩ = some (.bool left.isSome) := h.c1
      have k2 : (W.setCell ⟨bd, 1, none⟩ (.bool true)).cell? ⟨bd, 2, none⟩ = some (.int .i64 z) := by rw [cell_of_row _ bd 2 _ _ _ hrow1]; rfl
      have hrow2 := set_row (i := 2) (cs := [.map (some bm), .bool true, .int .i64 z]) hrow1 (.int .i64 n)
      have hT := (Turn.set W bd 1 (.bool true)).trans (Turn.set (W.setCell ⟨bd, 1, none⟩ (.bool true)) bd 2 (.int .i64 n)) fun _ _ e => e
      have HD2 := Lib.hid (h.setd (left' := some n.toNat) (z' := n) (fun k hk => by have := Option.some.inj hk; omega) hT hrow2)
      have HT := Lib.hid hT
      clear hr h hsp h0 hz hd hrow1 hrow2 hT HD
      go_enter Try.func10, Try.ntmps10
      go_wp2_with fail
      refine HC.out.mono ?_
      rintro e w1 ⟨rfl, rfl⟩
      go_wp2_with fail
      go_ret
      exact ⟨rfl, ⟨⟨_, _, HD2.out, rfl, fun p hp => .inr ⟨p, hp, rfl⟩⟩, HT.out.mono fun k _ e => .inl e⟩⟩
  · rw [hr] at HC
    have hsp : (stOf pl left).arm n = (stOf pl left, 8) := by unfold DS.arm; rw [hr, if_pos rfl]
    rw [hsp]
    clear hr h hsp
    go_enter Try.func10, Try.ntmps10
    go_wp2_with fail
    refine HC.out.mono ?_
    rintro e w1 ⟨rfl, rfl⟩
    go_wp2_with fail
    go_ret
    exact ⟨rfl, HD.out⟩
end Go.Proofs.Ytopdhefhagckoaa
