/- disk: Crash: what the call does. -/
import Derived.Test.YtopdhefhagckoaaDkNames
import Derived.Test.YtopdhefhagckoaaDTorn
import Derived.Test.YtopdhefhagckoaaRd
import Derived.Lib.MinMax
import Derived.StillTailTactics
namespace Go.Proofs.Ytopdhefhagckoaa
open Go.RowKit Go.Maps Go.Sort
set_option maxHeartbeats 2000000
set_option maxRecDepth 4000
theorem RdIn.turn {W W' : World} {v : Value} {xs : List Value} {S T : Nat → Prop} (h : RdIn W v xs S) (hT : Turn W W' T) (hST : ∀ b, b < W.heap.size → S b → ¬ T b) : RdIn W' v xs S := by
  obtain ⟨A, c, rfl, r⟩ := h
  refine ⟨A, c, rfl, fun k hk => ?_⟩
  obtain ⟨b, off, h1, h2, h3, h4⟩ := r k hk
  exact ⟨b, off, h1, Nat.lt_of_lt_of_le h2 hT.size, h3, (cell_of_heap (hT.block b h2 (hST b h2 h3)) _).trans h4⟩
theorem find_atN {α : Type} {nm : α → List UInt8} {l : List α} (h : Rising nm l) {i : Nat} (hi : i < l.length) : findN nm (nm (l[i]'hi)) l = some (l[i]'hi) := by
  induction l generalizing i with
  | nil => simp at hi
  | cons g l ih =>
    have h1 := List.pairwise_cons.1 h
    cases i with
    | zero => simp [findN]
    | succ i =>
      have hi' : i < l.length := by simpa using hi
      have hne : nm g ≠ nm (l[i]'hi') := fun e => by
        have := h1.1 _ (List.getElem_mem hi')
        rw [← e] at this
        exact lt_irrefl _ this
      have := ih h1.2 hi'
      unfold findN at this ⊢
      rw [List.getElem_cons_succ, List.find?_cons_of_neg (by simpa using hne)]
      exact this
theorem Its_torn {bd bm i : Nat} {pl : List FB} {ks : List Int} {k : Nat} : Its bd bm (tornTo i pl ks) k ↔ Its bd bm pl k := by
  have hs := tornTo_snd i pl ks
  have key : (∃ p ∈ tornTo i pl ks, p.2 = k) ↔ ∃ p ∈ pl, p.2 = k := by
    have h1 : k ∈ (tornTo i pl ks).map Prod.snd ↔ k ∈ pl.map Prod.snd := by rw [hs]
    simpa only [List.mem_map] using h1
  unfold Its
  rw [key]
theorem DkAt.its_lt {N : Nat} {w W : World} {bd bm : Nat} {pl : List FB} {left : Option Nat} (h : DkAt N w W bd bm pl left) {k : Nat} (hk : Its bd bm pl k) : k < W.heap.size := by
  obtain ⟨z, _, hd⟩ := h.d
  rcases hk with rfl | rfl | ⟨p, hp, rfl⟩
  · exact block_lt hd
  · exact h.m.lt
  · exact block_lt (h.f p hp)
theorem crash_any {N : Nat} {w : World} {bd bm : Nat} {pl : List FB} {left : Option Nat} (W : World) (h : DkAt N w W bd bm pl left) (v : Value) (ks : List Int) (hk : RdIn W v (ks.map fun k => .int .i64 k) (fun b => ¬ Its bd bm pl b)) :
    Calls Try.prog 15 #[.pointer (some ⟨bd, 0, none⟩), v] W fun e w' => e = .returned (.int .i64 0) ∧ DkTo N w W w' bd bm pl ((stOf pl left).crash ks) := by
  have HN := Lib.hid (names_own W h)
  have HIT : Hid (∀ k, Its bd bm pl k → k < W.heap.size) := show ∀ k, _ from fun k => h.its_lt
  obtain ⟨n, hn⟩ : ∃ n, n = pl.length := ⟨_, rfl⟩
  obtain ⟨m, hm⟩ : ∃ m, m = ks.length := ⟨_, rfl⟩
  have HM := Lib.hid hm
  have HNN := Lib.hid hn
  have hn8 : n ≤ 8 := by rw [hn]; exact h.len
  have HR := Lib.hid h.rise
  have HD0 : Hid (DkAt N w W bd bm (tornTo 0 pl ks) left) := show DkAt _ _ _ _ _ _ _ from by rw [tornTo_zero]; exact h
  obtain ⟨A, c, rfl, hkr⟩ := hk
  have HK : Hid (RdIn W (.slice A m c) (ks.map fun k => .int .i64 k) (fun b => ¬ Its bd bm pl b)) := show RdIn _ _ _ _ from ⟨A, c, by rw [hm, List.length_map], hkr⟩
  have hlen : (ks.map fun k => Value.int .i64 k).length = m := by rw [List.length_map, hm]
  rw [hlen]
  clear hlen hkr h hm hn
  go_enter Try.func15, Try.ntmps15
  go_wp2_with fail
  refine HN.out.mono ?_
  rintro e w1 ⟨q, rfl, hO, hB⟩
  have HO : Hid (RdIn w1 q ((pl.map fnm).map encStr) (fun b => ¬ Its bd bm pl b)) := show RdIn _ _ _ _ from (RdIn.of_own hO).mono fun b _ hb hi => by have := HIT.out b hi; omega
  have HO1 := Lib.hid hO
  have HT1 : Hid (Turn W w1 (Its bd bm pl)) := show Turn _ _ _ from Turn.of_below hB _
  have HD1 := Lib.hid (HD0.out.next hB)
  have HK1 := Lib.hid (HK.out.turn HT1.out fun b _ hb hi => hb hi)
  clear hO hB HK HD0 HN
  obtain ⟨A2, c2, rfl, hr2⟩ := HO.out
  have e2 : ((pl.map fnm).map encStr).length = n := by rw [List.length_map, List.length_map]; exact HNN.out.symm
  rw [e2]
  rw [e2] at HO HO1
  clear hr2 e2
  go_wp2_with fail
  go_loopw [14] (fun i_ wr => ∃ i : Nat, i_ = .int .i64 i ∧ i ≤ n ∧ Hid (DkAt N w wr bd bm (tornTo i pl ks) left) ∧ Hid (RdIn wr (.slice A2 n c2) ((pl.map fnm).map encStr) (fun b => ¬ Its bd bm pl b)) ∧ Hid (RdIn wr (.slice A m c) (ks.map fun k => .int .i64 k) (fun b => ¬ Its bd bm pl b)) ∧ Hid (Turn W wr (Its bd bm pl))) (fun i_ _ => match i_ with | .int _ k => n - k.toNat | _ => 0)
  case atStart => exact ⟨0, rfl, Nat.zero_le _, HD1, HO, HK1, HT1⟩
  case round =>
    obtain ⟨i, rfl, hin, HDi, HOi, HKi, HTi⟩ := hrel
    by_cases hlt : i < n
    · have hil : i < pl.length := by have := HNN.out; omega
      obtain ⟨p, hp⟩ : ∃ p, p = pl[i]'hil := ⟨_, rfl⟩
      have hti : i < (tornTo i pl ks).length := by rw [tornTo_length]; exact hil
      have hat : (tornTo i pl ks)[i]'hti = p := by rw [tornTo_at i pl ks hil, if_neg (Nat.lt_irrefl _), hp]
      have hmem : p ∈ tornTo i pl ks := by rw [← hat]; exact List.getElem_mem hti
      have hfd : findN fnm (fnm p) (tornTo i pl ks) = some p := by have := find_atN HDi.out.rise hti; rw [hat] at this; exact this
      have hok := HDi.out.wf.files p.1 (List.mem_map.2 ⟨p, hmem, rfl⟩)
      have hns : (bstr p.1.nm).size ≤ 140737488355328 := by
        have h9 := hok.1
        unfold isWord at h9
        simp only [Bool.and_eq_true, decide_eq_true_eq] at h9
        rw [bstr_size]
        omega
      obtain ⟨A9, c9, e9, r9⟩ := HOi.out
      injection e9 with e91 e92 e93
      subst e91 e93
      obtain ⟨b2, o2, hA2, hb2, _, hc2⟩ := r9 i (by rw [List.length_map, List.length_map]; exact hil)
      subst hA2
      have hnm : wr.cell? ⟨b2, o2 + i, none⟩ = some (.string (bstr p.1.nm)) := by rw [hc2, List.getElem_map, List.getElem_map, ← hp]; rfl
      have hlk := HDi.out.look hns
      rw [bstr_toList, show p.1.nm = fnm p from rfl, hfd] at hlk
      have hlk' : (Instr.lookup 51 (.map (some bm)) (.string (bstr p.1.nm)) false).run Try.prog wr = .ok (.pointer (some ⟨p.2, 0, none⟩)) wr := hlk
      have k0 := HDi.out.c0
      have kb := HDi.out.fb hmem
      have kf := HDi.out.fs hmem
      have cz1 : wr.frozen? ⟨p.2, 1, none⟩ = false := frozen_of_row wr p.2 1 _ _ (HDi.out.f p hmem)
      obtain ⟨kv, hkv⟩ : ∃ k, k = ks.getD i 0 := ⟨_, rfl⟩
      obtain ⟨dl, hdl⟩ : ∃ d, d = p.1.b.size - p.1.safe := ⟨_, rfl⟩
      obtain ⟨kk, hkk⟩ : ∃ k, k = kept p.1 kv := ⟨_, rfl⟩
      obtain ⟨s2, hs2⟩ : ∃ k, k = p.1.safe + kk := ⟨_, rfl⟩
      have b1 := hok.2.1
      have b2' := hok.2.2
      have hkk2 : kk = min kv.toNat dl := by rw [hkk, hdl]; rfl
      have e1 : IntKind.i64.wrap ((p.1.b.size : Int) - p.1.safe) = (dl : Int) := by rw [IntWalk.i64_in _ (by omega)]; omega
      have e2 : min (max kv 0) (dl : Int) = (kk : Int) := by omega
      have e3 : IntKind.i64.wrap ((p.1.safe : Int) + kk) = (s2 : Int) := by rw [IntWalk.i64_in _ (by omega)]; omega
      have f0 : (0 : Int) ≤ i := by omega
      have f1 : (i : Int) < n := by omega
      have f2 : (0 : Int) ≤ s2 := by omega
      have f3 : (s2 : Int) ≤ p.1.b.size := by omega
      have HST : Hid (torn p.1 kv = { p.1 with b := p.1.b.extract 0 s2, safe := s2 }) := show _ = _ from by rw [hs2, hkk]; rfl
      have HOK : Hid (torn p.1 kv).ok := show _ from torn_ok hok kv
      have HMEM := Lib.hid hmem
      have HFR := Lib.hid (HDi.out.f p hmem)
      have HSTEP : Hid (putN fnm (torn p.1 kv, p.2) (tornTo i pl ks) = tornTo (i + 1) pl ks) := show _ = _ from by rw [hkv, hp]; exact tornTo_step HR.out ks hil
      by_cases hlk2 : i < m
      · have hki : i < ks.length := by have := HM.out; omega
        obtain ⟨A8, c8, e8, r8⟩ := HKi.out
        injection e8 with e81 e82 e83
        subst e81 e83
        obtain ⟨b3, o3, hA3, hb3, _, hc3⟩ := r8 i (by rw [List.length_map]; exact hki)
        subst hA3
        have hkc : wr.cell? ⟨b3, o3 + i, none⟩ = some (.int .i64 kv) := by
          rw [hc3, List.getElem_map, hkv]
          congr 2
          rw [List.getD_eq_getElem?_getD, List.getElem?_eq_getElem hki]
          rfl
        have d0 : decide ((i : Int) < m) = true := decide_eq_true (by omega)
        clear hp hat hmem hfd hok hlk hc2 hc3 hkv hkk hkk2 hs2 hdl hti hil hns hki hb3 hb2 e82 e92 r8 r9
        go_wp2_with fail
        go_quiet (fail)
        go_wp2_with fail
        have hr1 := set_row (i := 1) (cs := [.string p.1.b, .int .i64 (p.1.safe : Int)]) (show (wr.drewN nq).heap[p.2]? = _ from HFR.out) (.int .i64 (s2 : Int))
        have hT1 := Turn.set (wr.drewN nq) p.2 1 (.int .i64 (s2 : Int))
        generalize (wr.drewN nq).setCell ⟨p.2, 1, none⟩ (.int .i64 (s2 : Int)) = w5 at *
        have kb5 : w5.cell? ⟨p.2, 0, none⟩ = some (.string p.1.b) := by rw [cell_of_row w5 p.2 0 _ _ _ hr1]; rfl
        have ks5 : w5.cell? ⟨p.2, 1, none⟩ = some (.int .i64 (s2 : Int)) := by rw [cell_of_row w5 p.2 1 _ _ _ hr1]; rfl
        have cz5 : w5.frozen? ⟨p.2, 0, none⟩ = false := frozen_of_row w5 p.2 0 _ _ hr1
        have hr6 := set_row (i := 0) (cs := [.string p.1.b, .int .i64 (s2 : Int)]) hr1 (.string (p.1.b.extract 0 s2))
        have hT0 : Turn wr (wr.drewN nq) (fun k => k = p.2) := ⟨rfl, rfl, rfl, Nat.le_refl _, fun _ _ _ => rfl⟩
        have hT6 := ((hT0.trans hT1 fun _ _ h => h).trans (Turn.set w5 p.2 0 (.string (p.1.b.extract 0 s2))) fun _ _ h => h).trans (Turn.of_below (Below.refl _ (w5.setCell ⟨p.2, 0, none⟩ (.string (p.1.b.extract 0 s2)))).drew (fun k => k = p.2)) fun _ _ h => h
        have HR6 : Hid ((w5.setCell ⟨p.2, 0, none⟩ (.string (p.1.b.extract 0 s2))).drew.heap[p.2]? = some (.cells #[.string (p.1.b.extract 0 s2), .int .i64 (s2 : Int)] 58 (0, 0))) := show _ = _ from hr6
        have HT6 := Lib.hid hT6
        clear hr1 hT1 hr6 hT6 hT0
        go_still_tail 10, (by kernel_rfl)
        go_wp2_with fail
        generalize (w5.setCell ⟨p.2, 0, none⟩ (.string (p.1.b.extract 0 s2))).drew = w6 at *
        have HD6 : Hid (DkAt N w w6 bd bm (tornTo (i + 1) pl ks) left) := show DkAt _ _ _ _ _ _ _ from by
          rw [← HSTEP.out]
          exact HDi.out.upd HMEM.out rfl HOK.out HT6.out (by rw [HST.out]; exact HR6.out)
        have HO6 := Lib.hid (HOi.out.turn HT6.out fun b _ hs he => hs (Its_torn.1 (.inr (.inr ⟨p, HMEM.out, he.symm⟩))))
        have HK6 := Lib.hid (HKi.out.turn HT6.out fun b _ hs he => hs (Its_torn.1 (.inr (.inr ⟨p, HMEM.out, he.symm⟩))))
        have HTT6 := Lib.hid (HTi.out.trans HT6.out fun b _ he => Its_torn.1 (.inr (.inr ⟨p, HMEM.out, he.symm⟩)))
        go_roundw
        case rel => exact ⟨i + 1, by go_num, by omega, HD6, HO6, HK6, HTT6⟩
        case measure => simp; omega
      · have d0 : decide ((i : Int) < m) = false := decide_eq_false (by omega)
        have hk0 : kk = 0 := by
          rw [hkk2, hkv, List.getD_eq_getElem?_getD, List.getElem?_eq_none (by have := HM.out; omega)]
          simp
        have hs3 : s2 = p.1.safe := by rw [hs2, hk0]; rfl
        clear hs2 e3
        subst hs3
        clear hp hat hmem hfd hok hlk hc2 hkv hkk hkk2 hdl hti hil hns hb2 e92 r9 e1 e2 hk0
        go_wp2_with fail
        have hr1 := set_row (i := 1) (cs := [.string p.1.b, .int .i64 (p.1.safe : Int)]) (show wr.heap[p.2]? = _ from HFR.out) (.int .i64 (p.1.safe : Int))
        have hT1 := Turn.set wr p.2 1 (.int .i64 (p.1.safe : Int))
        generalize wr.setCell ⟨p.2, 1, none⟩ (.int .i64 (p.1.safe : Int)) = w5 at *
        have kb5 : w5.cell? ⟨p.2, 0, none⟩ = some (.string p.1.b) := by rw [cell_of_row w5 p.2 0 _ _ _ hr1]; rfl
        have ks5 : w5.cell? ⟨p.2, 1, none⟩ = some (.int .i64 (p.1.safe : Int)) := by rw [cell_of_row w5 p.2 1 _ _ _ hr1]; rfl
        have cz5 : w5.frozen? ⟨p.2, 0, none⟩ = false := frozen_of_row w5 p.2 0 _ _ hr1
        have hr6 := set_row (i := 0) (cs := [.string p.1.b, .int .i64 (p.1.safe : Int)]) hr1 (.string (p.1.b.extract 0 p.1.safe))
        have hT0 : Turn wr wr (fun k => k = p.2) := ⟨rfl, rfl, rfl, Nat.le_refl _, fun _ _ _ => rfl⟩
        have hT6 := ((hT0.trans hT1 fun _ _ h => h).trans (Turn.set w5 p.2 0 (.string (p.1.b.extract 0 p.1.safe))) fun _ _ h => h).trans (Turn.of_below (Below.refl _ (w5.setCell ⟨p.2, 0, none⟩ (.string (p.1.b.extract 0 p.1.safe)))).drew (fun k => k = p.2)) fun _ _ h => h
        have HR6 : Hid ((w5.setCell ⟨p.2, 0, none⟩ (.string (p.1.b.extract 0 p.1.safe))).drew.heap[p.2]? = some (.cells #[.string (p.1.b.extract 0 p.1.safe), .int .i64 (p.1.safe : Int)] 58 (0, 0))) := show _ = _ from hr6
        have HT6 := Lib.hid hT6
        clear hr1 hT1 hr6 hT6 hT0
        go_still_tail 10, (by kernel_rfl)
        go_wp2_with fail
        generalize (w5.setCell ⟨p.2, 0, none⟩ (.string (p.1.b.extract 0 p.1.safe))).drew = w6 at *
        have HD6 : Hid (DkAt N w w6 bd bm (tornTo (i + 1) pl ks) left) := show DkAt _ _ _ _ _ _ _ from by
          rw [← HSTEP.out]
          exact HDi.out.upd HMEM.out rfl HOK.out HT6.out (by rw [HST.out]; exact HR6.out)
        have HO6 := Lib.hid (HOi.out.turn HT6.out fun b _ hs he => hs (Its_torn.1 (.inr (.inr ⟨p, HMEM.out, he.symm⟩))))
        have HK6 := Lib.hid (HKi.out.turn HT6.out fun b _ hs he => hs (Its_torn.1 (.inr (.inr ⟨p, HMEM.out, he.symm⟩))))
        have HTT6 := Lib.hid (HTi.out.trans HT6.out fun b _ he => Its_torn.1 (.inr (.inr ⟨p, HMEM.out, he.symm⟩)))
        go_roundw
        case rel => exact ⟨i + 1, by go_num, by omega, HD6, HO6, HK6, HTT6⟩
        case measure => simp; omega
    · have hie : i = n := by omega
      subst hie
      have d0 : decide ((i : Int) < i) = false := decide_eq_false (by omega)
      obtain ⟨z, hz, hd⟩ := HDi.out.d
      have cz : wr.frozen? ⟨bd, 1, none⟩ = false := frozen_of_row wr bd 1 _ _ hd
      have k1 := HDi.out.c1
      have hrow := set_row (i := 1) (cs := [.map (some bm), .bool left.isSome, .int .i64 z]) hd (.bool false)
      have hT := Turn.set wr bd 1 (.bool false)
      have HDE := Lib.hid (HDi.out.setd (left' := none) (z' := z) (fun k hk => by cases hk) hT hrow)
      have HTE := Lib.hid (HTi.out.trans hT fun b _ he => .inl he)
      have HEQ : Hid (stOf (tornTo i pl ks) none = (stOf pl left).crash ks) := show _ = _ from by
        show DS.mk (files (tornTo i pl ks)) none = DS.mk (crashL (files pl) ks) none
        rw [HNN.out, tornTo_all]
      clear hz hd hrow hT
      go_wp2_with fail
      go_ret
      refine ⟨rfl, ⟨⟨_, _, HDE.out, HEQ.out, fun p hp => ?_⟩, HTE.out⟩⟩
      have h9 : Its bd bm (tornTo i pl ks) p.2 := .inr (.inr ⟨p, hp, rfl⟩)
      have h8 : p.2 ∈ (tornTo i pl ks).map Prod.snd := List.mem_map.2 ⟨p, hp, rfl⟩
      rw [tornTo_snd] at h8
      obtain ⟨q, hq, e⟩ := List.mem_map.1 h8
      exact .inr ⟨q, hq, e⟩
end Go.Proofs.Ytopdhefhagckoaa
