/- cavalcaderef09.Disk: Append, Arm, Look: what the calls do. -/
import Derived.Test.YtopdhefhagckoaaRX3
namespace Go.Proofs.Ytopdhefhagckoaa
open Go.RowKit
set_option maxHeartbeats 4000000
set_option maxRecDepth 4000
theorem xappend_any {N : Nat} {bx : Nat} {v : Value} {d : DS} (W : World) (h : XAt N W bx v d) (s t : ByteArray) (hs : s.size ≤ 140737488355328) (ht : t.size ≤ 140737488351232) :
    Calls Try.prog 31 #[.pointer (some ⟨bx, 0, none⟩), .string s, .string t] W fun e w' => e = .returned (.int .i64 (d.append s.data.toList t).2) ∧ XTo N W w' bx v (d.append s.data.toList t).1 := by
  have HD := Lib.hid (xdown_any W h)
  have HX := Lib.hid h
  have HS := Lib.hid (XTo.same h)
  have HW := Lib.hid (wf_append h.wf s.data.toList t)
  have HWO := Lib.hid (fun W => xword_any s W hs)
  obtain ⟨r, hr⟩ : ∃ r, r = d.append s.data.toList t := ⟨_, rfl⟩
  have hsp := hr
  unfold DS.append at hsp
  rw [← hr] at HW ⊢
  have hup := up_left' (d := d)
  cases hd : d.down with
  | true =>
    rw [hd, if_pos rfl] at hsp
    subst hsp
    rw [hd] at HD
    clear h hr hd hup
    go_enter Try.func31, Try.ntmps31
    go_wp2_with fail
    refine HD.out.mono ?_
    rintro e w1 ⟨rfl, rfl⟩
    go_wp2_with fail
    go_ret
    exact ⟨rfl, HS.out⟩
  | false =>
    rw [hd, if_neg (by decide)] at hsp
    rw [hd] at HD
    have HUP := Lib.hid (hup hd)
    have HWO1 := Lib.hid (HWO.out W)
    cases hwd : isWord s.data.toList with
    | false =>
      rw [hwd, if_pos rfl] at hsp
      rw [hwd] at HWO1
      subst hsp
      clear h hr hd hup hwd
      go_enter Try.func31, Try.ntmps31
      go_wp2_with fail
      refine HD.out.mono ?_
      rintro e w1 ⟨rfl, rfl⟩
      go_wp2_with fail
      refine HWO1.out.mono ?_
      rintro e w1 ⟨rfl, rfl⟩
      go_wp2_with fail
      go_ret
      exact ⟨rfl, HS.out⟩
    | true =>
      rw [hwd, if_neg (by decide)] at hsp
      rw [hwd] at HWO1
      have HSP := Lib.hid hsp
      have hz0 := heap_alloc_new W (.cells zlF.toArray 66)
      clear h hr hd hup hwd hsp
      go_enter Try.func31, Try.ntmps31
      go_wp2_with fail
      refine HD.out.mono ?_
      rintro e w1 ⟨rfl, rfl⟩
      go_wp2_with fail
      refine HWO1.out.mono ?_
      rintro e w1 ⟨rfl, rfl⟩
      go_wp2_with fail
      have HP2 : Hid (PfAt w1 (w1.alloc (.cells #[.string s, .string ⟨#[]⟩, .int .i64 0] 66)) w1.heap.size { nm := s.data.toList, b := ⟨#[]⟩, safe := 0 }) := show PfAt _ _ _ _ from ⟨bw_alloc (Below.refl _ _) _, heap_alloc_new w1 _, Nat.le_refl _⟩
      generalize w1.alloc (.cells #[.string s, .string ⟨#[]⟩, .int .i64 0] 66) = w2 at *
      have HX2 := Lib.hid (HX.out.next HP2.out.b)
      have HLT := Lib.hid (fun k => HX.out.lt (k := k))
      clear hz0
      refine (xat_any _ HX2.out s).mono ?_
      rintro e w3 ⟨rfl, z, rfl, hz⟩
      obtain ⟨q, c, rfl, hrw⟩ := HX2.out.row
      have hn8 := HX2.out.wf.few
      have HFL := Lib.hid HX2.out.wf.files
      generalize hpf : w1.heap.size = pf at *
      have HPF := Lib.hid hpf
      clear hpf
      rcases hz with ⟨rfl, hf⟩ | ⟨i, hi, rfl, hf⟩
      · have hsp := HSP.out
        rw [hf] at hsp
        dsimp only at hsp
        have c0 := HP2.out.c (j := 0) rfl
        have c1 := HP2.out.c (j := 1) rfl
        have c2 := HP2.out.c (j := 2) rfl
        have cz := HP2.out.fz 1
        have k0 := HX2.out.c0
        clear hf hrw HSP
        by_cases hb : 1048576 < t.size
        · rw [if_pos hb] at hsp
          subst hsp
          have d1 : decide ((1048576 : Int) < t.size) = true := decide_eq_true (by omega)
          go_wp2_with fail
          go_ret
          exact ⟨rfl, _, HX.out.next HP2.out.b, fun k hk => .inl hk, Turn.of_below HP2.out.b _⟩
        · rw [if_neg hb] at hsp
          have d1 : decide ((1048576 : Int) < t.size) = false := decide_eq_false (by omega)
          by_cases h8 : 8 ≤ d.fs.length
          · rw [if_pos h8] at hsp
            subst hsp
            have d2 : decide (8 ≤ (d.fs.length : Int)) = true := decide_eq_true (by omega)
            have d2' : decide (8 ≤ d.fs.length) = true := decide_eq_true h8
            go_wp2_with fail
            go_ret
            exact ⟨rfl, _, HX.out.next HP2.out.b, fun k hk => .inl hk, Turn.of_below HP2.out.b _⟩
          · rw [if_neg h8] at hsp
            subst hsp
            have d2 : decide (8 ≤ (d.fs.length : Int)) = false := decide_eq_false (by omega)
            have d2' : decide (8 ≤ d.fs.length) = false := decide_eq_false h8
            have hsum : ¬ 9223372036854775807 < t.size := by omega
            have HP3 := Lib.hid (HP2.out.set (i := 1) (u := .string t) (f' := { nm := s.data.toList, b := t, safe := 0 }) rfl)
            have HX3 := Lib.hid (HX.out.next HP3.out.b)
            go_wp2_with fail
            refine (xput_any _ HX3.out { nm := s.data.toList, b := t, safe := 0 } (wf_fs HW.out rfl)).mono ?_
            rintro e w4 ⟨rfl, v', hX4, hn4, hT4⟩
            have HX4 := Lib.hid hX4
            have HN4 := Lib.hid hn4
            have HT4 := Lib.hid hT4
            clear hX4 hn4 hT4
            go_wp2_with fail
            refine (xone_any _ HX4.out HUP.out).mono ?_
            rintro e w5 ⟨rfl, hX5, hT5⟩
            have HTO := Lib.hid (XTo.put HP3.out.b HN4.out HT4.out hX5 hT5)
            clear hX5 hT5
            go_wp2_with fail
            go_ret
            exact ⟨rfl, HTO.out⟩
      · obtain ⟨gb, hg, -, -, -, hc⟩ := HX2.out.rowq i hi
        subst hg
        have hsp := HSP.out
        rw [hf] at hsp
        dsimp only at hsp
        obtain ⟨g, hgg⟩ : ∃ x, x = d.fs[i]'hi := ⟨_, rfl⟩
        have hok := HFL.out _ (List.getElem_mem hi)
        rw [← hgg] at hc hsp hok
        have hgz := hok.2.2
        have HRG : Hid (w3.rangeAt gb (i * 3) (fcl g)) := show World.rangeAt _ _ _ _ from hc
        have f0 : (0 : Int) ≤ i := by omega
        have f1 : (i : Int) < d.fs.length := by omega
        have f2 : ¬ (i : Int) < 0 := by omega
        have k0 := HX2.out.c0
        have hp2 := HP2.out.p
        have hp2' : w3.heap[pf]? = some (.cells [Value.string s, .string ⟨#[]⟩, .int .i64 0].toArray 66 (0, 0)) := hp2
        clear hc hgg hf HSP hok hp2 hrw
        obtain ⟨m, hm⟩ : ∃ m, m = g.b.size + t.size := ⟨_, rfl⟩
        have e1 : IntKind.i64.wrap ((g.b.size : Int) + t.size) = (m : Int) := by rw [IntWalk.i64_in _ (by omega)]; omega
        by_cases hb : 1048576 < g.b.size + t.size
        · rw [if_pos hb] at hsp
          subst hsp
          have d1 : decide ((1048576 : Int) < m) = true := decide_eq_true (by omega)
          have d1' : decide (1048576 < m) = true := decide_eq_true (by omega)
          clear hm hb
          go_wp2_with (first
            | (with_reducible refine wpList_load_mid rfl 66 (.tmp 26) rfl gb (i * 3) rfl (fcl g) _ HRG.out Try.underlying66 rfl (file_info _) ?_)
            | ((with_reducible refine wpList_store_whole rfl 66 (.tmp 7) (.tmp 27) rfl pf (fcl g) [Value.string s, .string ⟨#[]⟩, .int .i64 0] 66 rfl rfl hp2' rfl (file_info g) (fcl_one g) ?_); intro w4 hU4; have HP4 := Lib.hid (PfAt.up hU4.out HP2.out.b HP2.out.lo); have k4 := (HX.out.next HP4.out.b).c0; have c0 := HP4.out.c (j := 0) rfl; have c1 := HP4.out.c (j := 1) rfl; have c2 := HP4.out.c (j := 2) rfl; have cz := HP4.out.fz 1; clear hU4 hp2'))
          go_ret
          exact ⟨rfl, _, HX.out.next HP4.out.b, fun k hk => .inl hk, Turn.of_below HP4.out.b _⟩
        · rw [if_neg hb] at hsp
          subst hsp
          have d1 : decide ((1048576 : Int) < m) = false := decide_eq_false (by omega)
          have d1' : decide (1048576 < m) = false := decide_eq_false (by omega)
          have hsum : ¬ 9223372036854775807 < g.b.size + t.size := by omega
          clear hm hb
          go_wp2_with (first
            | (with_reducible refine wpList_load_mid rfl 66 (.tmp 26) rfl gb (i * 3) rfl (fcl g) _ HRG.out Try.underlying66 rfl (file_info _) ?_)
            | ((with_reducible refine wpList_store_whole rfl 66 (.tmp 7) (.tmp 27) rfl pf (fcl g) [Value.string s, .string ⟨#[]⟩, .int .i64 0] 66 rfl rfl hp2' rfl (file_info g) (fcl_one g) ?_); intro w4 hU4; have HP4 := Lib.hid (PfAt.up hU4.out HP2.out.b HP2.out.lo); have k4 := (HX.out.next HP4.out.b).c0; have c0 := HP4.out.c (j := 0) rfl; have c1 := HP4.out.c (j := 1) rfl; have c2 := HP4.out.c (j := 2) rfl; have cz := HP4.out.fz 1; clear hU4 hp2'))
          have hadd := run_string_add_sum (P := Try.prog) w4 g.b t (by omega)
          have HP3 := Lib.hid (HP4.out.set (i := 1) (u := .string (g.b ++ t)) (f' := { g with b := g.b ++ t }) rfl)
          have HX3 := Lib.hid (HX.out.next HP3.out.b)
          go_wp2_with fail
          refine (xput_any _ HX3.out { g with b := g.b ++ t } (wf_fs HW.out rfl)).mono ?_
          rintro e w4 ⟨rfl, v', hX4, hn4, hT4⟩
          have HX4 := Lib.hid hX4
          have HN4 := Lib.hid hn4
          have HT4 := Lib.hid hT4
          clear hX4 hn4 hT4
          go_wp2_with fail
          refine (xone_any _ HX4.out HUP.out).mono ?_
          rintro e w5 ⟨rfl, hX5, hT5⟩
          have HTO := Lib.hid (XTo.put HP3.out.b HN4.out HT4.out hX5 hT5)
          clear hX5 hT5
          go_wp2_with fail
          go_ret
          exact ⟨rfl, HTO.out⟩
theorem xarm_any {N : Nat} {bx : Nat} {v : Value} {d : DS} (W : World) (h : XAt N W bx v d) (n : Int) (hn : n ≤ 9223372036854775807) :
    Calls Try.prog 35 #[.pointer (some ⟨bx, 0, none⟩), .int .i64 n] W fun e w' => e = .returned (.int .i64 (d.arm n).2) ∧ XTo N W w' bx v (d.arm n).1 := by
  have HD := Lib.hid (xdown_any W h)
  have HS := Lib.hid (XTo.same h)
  obtain ⟨r, hr⟩ : ∃ r, r = d.arm n := ⟨_, rfl⟩
  have hsp := hr
  unfold DS.arm at hsp
  rw [← hr]
  cases hd : d.down with
  | true =>
    rw [hd, if_pos rfl] at hsp
    subst hsp
    rw [hd] at HD
    clear h hr hd
    go_enter Try.func35, Try.ntmps35
    go_wp2_with fail
    refine HD.out.mono ?_
    rintro e w1 ⟨rfl, rfl⟩
    go_wp2_with fail
    go_ret
    exact ⟨rfl, HS.out⟩
  | false =>
    rw [hd, if_neg (by decide)] at hsp
    rw [hd] at HD
    by_cases h0 : n < 0
    · rw [if_pos h0] at hsp
      subst hsp
      have d0 : decide (n < 0) = true := decide_eq_true h0
      clear h hr hd
      go_enter Try.func35, Try.ntmps35
      go_wp2_with fail
      refine HD.out.mono ?_
      rintro e w1 ⟨rfl, rfl⟩
      go_wp2_with fail
      go_ret
      exact ⟨rfl, HS.out⟩
    · rw [if_neg h0] at hsp
      subst hsp
      have d0 : decide (n < 0) = false := decide_eq_false h0
      have cz : W.frozen? ⟨bx, 1, none⟩ = false := frozen_of_row W bx 1 _ _ h.x
      have k1 := h.c1
      have hT := Turn.set W bx 1 (.int .i64 n)
      have HX : Hid (XTo N W (W.setCell ⟨bx, 1, none⟩ (.int .i64 n)) bx v { d with left := some n.toNat }) := show XTo _ _ _ _ _ _ from by
        refine ⟨v, ⟨?_, own_other h.own fun j hj => hT.block j (h.lt (.inr hj)) (fun e => h.ap (by rw [← e]; exact hj)), h.ap, h.lo, wf_fs h.wf rfl, fun j hj => by have := Option.some.inj hj; omega⟩, fun k hk => .inl hk, hT.mono fun k _ e => .inl e⟩
        rw [set_row (i := 1) (cs := [v, .int .i64 (leftI d.left)]) h.x (.int .i64 n)]
        rw [show leftI (some n.toNat) = n by show ((n.toNat : Nat) : Int) = n; omega]
        rfl
      clear h hr hd hT
      go_enter Try.func35, Try.ntmps35
      go_wp2_with fail
      refine HD.out.mono ?_
      rintro e w1 ⟨rfl, rfl⟩
      go_wp2_with fail
      go_ret
      exact ⟨rfl, HX.out⟩
theorem xlook_any {N : Nat} {bx : Nat} {v : Value} {d : DS} (W : World) (h : XAt N W bx v d) (s : ByteArray) :
    Calls Try.prog 23 #[.pointer (some ⟨bx, 0, none⟩), .string s] W fun e w' => e = .returned (.tuple #[.string (d.look s.data.toList).1, .int .i64 ((d.look s.data.toList).2.1 : Nat), .int .i64 (d.look s.data.toList).2.2]) ∧ Below W.heap.size W w' := by
  have HD := Lib.hid (xdown_any W h)
  have HA := Lib.hid (xat_any W h s)
  obtain ⟨r, hr⟩ : ∃ r, r = d.look s.data.toList := ⟨_, rfl⟩
  have hsp := hr
  unfold DS.look at hsp
  rw [← hr]
  cases hd : d.down with
  | true =>
    rw [hd, if_pos rfl] at hsp
    subst hsp
    rw [hd] at HD
    clear h hr hd
    go_enter Try.func23, Try.ntmps23
    go_wp2_with fail
    refine HD.out.mono ?_
    rintro e w1 ⟨rfl, rfl⟩
    go_wp2_with fail
    go_ret3
    exact ⟨rfl, Below.refl _ _⟩
  | false =>
    rw [hd, if_neg (by decide)] at hsp
    rw [hd] at HD
    obtain ⟨q, c, rfl, -⟩ := h.row
    have k0 := h.c0
    have HX := Lib.hid h
    have HSP := Lib.hid hsp
    clear h hr hd hsp
    go_enter Try.func23, Try.ntmps23
    go_wp2_with fail
    refine HD.out.mono ?_
    rintro e w1 ⟨rfl, rfl⟩
    go_wp2_with fail
    refine HA.out.mono ?_
    rintro e w1 ⟨rfl, z, rfl, hz⟩
    rcases hz with ⟨rfl, hf⟩ | ⟨i, hi, rfl, hf⟩
    · have hsp := HSP.out
      rw [hf] at hsp
      have hsp2 : r = (ByteArray.empty, 0, 34) := hsp
      subst hsp2
      clear hf hsp
      go_wp2_with fail
      go_ret3
      exact ⟨rfl, Below.refl _ _⟩
    · obtain ⟨gb, hg, -, -, -, hc⟩ := HX.out.rowq i hi
      subst hg
      have hsp := HSP.out
      rw [hf] at hsp
      obtain ⟨g, hgg⟩ : ∃ x, x = d.fs[i]'hi := ⟨_, rfl⟩
      rw [← hgg] at hc hsp
      have hsp2 : r = (g.b, g.safe, 0) := hsp
      subst hsp2
      have c1 : w1.cell? ⟨gb, i * 3 + 1, none⟩ = some (.string g.b) := hc 1 _ rfl
      have c2 : w1.cell? ⟨gb, i * 3 + 2, none⟩ = some (.int .i64 (g.safe : Int)) := hc 2 _ rfl
      have hn8 := HX.out.wf.few
      have f0 : (0 : Int) ≤ i := by omega
      have f1 : (i : Int) < d.fs.length := by omega
      have f2 : ¬ (i : Int) < 0 := by omega
      clear hc hgg hf HSP hsp
      go_wp2_with fail
      go_quiet (fail)
      go_wp2_with fail
      go_ret3
      exact ⟨rfl, bw_drewN (Below.refl _ _) _⟩
end Go.Proofs.Ytopdhefhagckoaa
