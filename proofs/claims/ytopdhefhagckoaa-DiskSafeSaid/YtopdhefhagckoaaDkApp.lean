/- disk: Append: what the call does. -/
import Derived.Test.YtopdhefhagckoaaDkMut2
namespace Go.Proofs.Ytopdhefhagckoaa
open Go.RowKit Go.Maps
set_option maxHeartbeats 2000000
set_option maxRecDepth 4000
theorem mem_put_self {α : Type} {nm : α → List UInt8} (f : α) : ∀ l : List α, f ∈ putN nm f l
  | [] => by simp [putN]
  | g :: l => by
    unfold putN
    split
    · exact List.mem_cons_self
    · split
      · exact List.mem_cons_self
      · exact List.mem_cons_of_mem _ (mem_put_self f l)
theorem append_fail {N : Nat} {w : World} {bd bm : Nat} {pl : List FB} {left : Option Nat} (W : World) (h : DkAt N w W bd bm pl left) (s t : ByteArray) (hs : s.size ≤ 140737488355328) (ht : t.size ≤ 140737488351232) (hd : (stOf pl left).down = true ∨ isWord s.data.toList = false) :
    Calls Try.prog 12 #[.pointer (some ⟨bd, 0, none⟩), .string s, .string t] W fun e w' => e = .returned (.int .i64 ((stOf pl left).append s.data.toList t).2) ∧ DkTo N w W w' bd bm pl ((stOf pl left).append s.data.toList t).1 := by
  have HC := Lib.hid (wrong_any W h)
  have HD : Hid (DkTo N w W W bd bm pl (stOf pl left)) := show DkTo _ _ _ _ _ _ _ _ from ⟨⟨pl, left, h, rfl, fun p hp => .inr ⟨p, hp, rfl⟩⟩, Turn.refl _ _⟩
  cases hr : (stOf pl left).down with
  | true =>
    have hsp : (stOf pl left).append s.data.toList t = (stOf pl left, 8) := by unfold DS.append; rw [if_pos hr]
    rw [hsp]
    rw [hr] at HC
    clear hr h hsp hd
    go_enter Try.func12, Try.ntmps12
    go_wp2_with fail
    refine HC.out.mono ?_
    rintro e w1 ⟨rfl, rfl⟩
    go_wp2_with fail
    go_ret
    exact ⟨rfl, HD.out⟩
  | false =>
    have hw : isWord s.data.toList = false := hd.resolve_left (by rw [hr]; decide)
    have hsp : (stOf pl left).append s.data.toList t = (stOf pl left, 2) := by unfold DS.append; rw [hr, if_neg (by decide), if_pos hw]
    have HWD := Lib.hid (word_any s W)
    rw [hsp]
    rw [hr] at HC
    rw [hw] at HWD
    have k0 := h.c0
    have hlk := h.look hs
    clear hr h hsp hd hw
    generalize fptr (findN fnm s.data.toList pl) = v at hlk
    go_enter Try.func12, Try.ntmps12
    go_wp2_with fail
    refine HC.out.mono ?_
    rintro e w1 ⟨rfl, rfl⟩
    go_wp2_with fail
    refine HWD.out.mono ?_
    rintro e w2 ⟨rfl, rfl⟩
    go_wp2_with fail
    go_ret
    exact ⟨rfl, HD.out⟩
theorem append_old {N : Nat} {w : World} {bd bm : Nat} {pl : List FB} {left : Option Nat} (W : World) (h : DkAt N w W bd bm pl left) (s t : ByteArray) (hs : s.size ≤ 140737488355328) (ht : t.size ≤ 140737488351232) (hd : (stOf pl left).down = false) (hw : isWord s.data.toList = true) {p : FB} (hf : findN fnm s.data.toList pl = some p) :
    Calls Try.prog 12 #[.pointer (some ⟨bd, 0, none⟩), .string s, .string t] W fun e w' => e = .returned (.int .i64 ((stOf pl left).append s.data.toList t).2) ∧ DkTo N w W w' bd bm pl ((stOf pl left).append s.data.toList t).1 := by
  have HC := Lib.hid (wrong_any W h)
  have HD : Hid (DkTo N w W W bd bm pl (stOf pl left)) := show DkTo _ _ _ _ _ _ _ _ from ⟨⟨pl, left, h, rfl, fun p hp => .inr ⟨p, hp, rfl⟩⟩, Turn.refl _ _⟩
  have HWD := Lib.hid (word_any s W)
  rw [hd] at HC
  rw [hw] at HWD
  have k0 := h.c0
  have hlk := h.look hs
  rw [hf] at hlk
  have hlk' : (Instr.lookup 51 (.map (some bm)) (.string s) false).run Try.prog W = .ok (.pointer (some ⟨p.2, 0, none⟩)) W := hlk
  obtain ⟨hp, hn⟩ := findN_some hf
  have kb := h.fb hp
  have hok := h.wf.files p.1 (List.mem_map.2 ⟨p, hp, rfl⟩)
  obtain ⟨m, hm⟩ : ∃ m, m = 1048576 - p.1.b.size := ⟨_, rfl⟩
  have e1 : IntKind.i64.wrap ((1048576 : Int) - p.1.b.size) = (m : Int) := by have := hok.2.2; rw [IntWalk.i64_in _ (by omega)]; omega
  by_cases hb : 1048576 < p.1.b.size + t.size
  · have hsp : (stOf pl left).append s.data.toList t = (stOf pl left, 3) := by
      unfold DS.append
      rw [hd, if_neg (by decide), hw, if_neg (by decide), find_st, hf]
      show (if 1048576 < p.1.b.size + t.size then _ else _) = _
      rw [if_pos hb]
    have d1 : decide (m < t.size) = true := decide_eq_true (by have := hok.2.2; omega)
    rw [hsp]
    clear h hsp hd hw hlk hf hn hp hok hm hb
    go_enter Try.func12, Try.ntmps12
    go_wp2_with fail
    refine HC.out.mono ?_
    rintro e w1 ⟨rfl, rfl⟩
    go_wp2_with fail
    refine HWD.out.mono ?_
    rintro e w2 ⟨rfl, rfl⟩
    go_wp2_with fail
    go_ret
    exact ⟨rfl, HD.out⟩
  · have hsp : (stOf pl left).append s.data.toList t = ((stOf pl left).did (putN FE.nm { p.1 with b := p.1.b ++ t } (stOf pl left).fs), 0) := by
      unfold DS.append
      rw [hd, if_neg (by decide), hw, if_neg (by decide), find_st, hf]
      show (if 1048576 < p.1.b.size + t.size then _ else _) = _
      rw [if_neg hb]
    have d1 : decide (m < t.size) = false := decide_eq_false (by have := hok.2.2; omega)
    have d2 : decide ((1048576 : Int) < t.size) = false := decide_eq_false (by omega)
    rw [hsp, put_st ({ p.1 with b := p.1.b ++ t }, p.2)]
    have hadd := run_string_add_sum (P := Try.prog) W p.1.b t (by omega)
    have hsum : ¬ 9223372036854775807 < p.1.b.size + t.size := by omega
    have cz : W.frozen? ⟨p.2, 0, none⟩ = false := frozen_of_row W p.2 0 _ _ (h.f p hp)
    have hT := Turn.set W p.2 0 (.string (p.1.b ++ t))
    have hrow := set_row (i := 0) (cs := [.string p.1.b, .int .i64 (p.1.safe : Int)]) (h.f p hp) (.string (p.1.b ++ t))
    have hsz : (p.1.b ++ t).size = p.1.b.size + t.size := ByteArray.size_append
    have HD1 := Lib.hid (h.upd (y := { p.1 with b := p.1.b ++ t }) hp rfl ⟨hok.1, by show p.1.safe ≤ (p.1.b ++ t).size; have := hok.2.1; omega, by show (p.1.b ++ t).size ≤ _; omega⟩ hT hrow)
    have HT := Lib.hid hT
    have HN := Lib.hid (done_any _ HD1.out (up_left hd))
    have HP := Lib.hid hp
    clear h hsp hd hw hlk hf hn hp hok hm hb hT hrow hsz HD
    go_enter Try.func12, Try.ntmps12
    go_wp2_with fail
    refine HC.out.mono ?_
    rintro e w1 ⟨rfl, rfl⟩
    go_wp2_with fail
    refine HWD.out.mono ?_
    rintro e w2 ⟨rfl, rfl⟩
    go_wp2_with fail
    refine HN.out.mono ?_
    rintro e w2 ⟨rfl, hD2, hT2⟩
    have HD2 := Lib.hid hD2
    have HT2 := Lib.hid hT2
    clear hD2 hT2
    go_wp2_with fail
    go_ret
    refine ⟨rfl, ⟨⟨_, _, HD2.out, rfl, fun q hq => ?_⟩, (HT.out.mono fun k _ e => .inr (.inr ⟨p, HP.out, e.symm⟩)).trans HT2.out fun k _ e => .inl e⟩⟩
    rcases mem_putN hq with rfl | hq
    · exact .inr ⟨p, HP.out, rfl⟩
    · exact .inr ⟨q, hq, rfl⟩
theorem file_build (w : World) : (Instr.build 58 #[]).run Try.prog w = .ok (.agg #[.string ⟨#[]⟩, .int .i64 0]) w := by kernel_rfl
theorem append_new {N : Nat} {w : World} {bd bm : Nat} {pl : List FB} {left : Option Nat} (W : World) (h : DkAt N w W bd bm pl left) (s t : ByteArray) (hs : s.size ≤ 140737488355328) (ht : t.size ≤ 140737488351232) (hd : (stOf pl left).down = false) (hw : isWord s.data.toList = true) (hf : findN fnm s.data.toList pl = none) :
    Calls Try.prog 12 #[.pointer (some ⟨bd, 0, none⟩), .string s, .string t] W fun e w' => e = .returned (.int .i64 ((stOf pl left).append s.data.toList t).2) ∧ DkTo N w W w' bd bm pl ((stOf pl left).append s.data.toList t).1 := by
  have HC := Lib.hid (wrong_any W h)
  have HD : Hid (DkTo N w W W bd bm pl (stOf pl left)) := show DkTo _ _ _ _ _ _ _ _ from ⟨⟨pl, left, h, rfl, fun p hp => .inr ⟨p, hp, rfl⟩⟩, Turn.refl _ _⟩
  have HWD := Lib.hid (word_any s W)
  rw [hd] at HC
  rw [hw] at HWD
  have k0 := h.c0
  have hlk := h.look hs
  rw [hf] at hlk
  have hlk' : (Instr.lookup 51 (.map (some bm)) (.string s) false).run Try.prog W = .ok (.pointer none) W := hlk
  by_cases hb : 1048576 < t.size
  · have hsp : (stOf pl left).append s.data.toList t = (stOf pl left, 3) := by
      unfold DS.append
      rw [hd, if_neg (by decide), hw, if_neg (by decide), find_st, hf]
      show (if 1048576 < t.size then _ else _) = _
      rw [if_pos hb]
    have d2 : decide ((1048576 : Int) < t.size) = true := decide_eq_true (by omega)
    rw [hsp]
    clear h hsp hd hw hlk hf hb
    go_enter Try.func12, Try.ntmps12
    go_wp2_with fail
    refine HC.out.mono ?_
    rintro e w1 ⟨rfl, rfl⟩
    go_wp2_with fail
    refine HWD.out.mono ?_
    rintro e w2 ⟨rfl, rfl⟩
    go_wp2_with fail
    go_ret
    exact ⟨rfl, HD.out⟩
  · have d2 : decide ((1048576 : Int) < t.size) = false := decide_eq_false (by omega)
    have hown := h.m
    have hsz : Maps.size (datum fnm fvl pl) = pl.length := datum_size pl
    have hfl : (stOf pl left).fs.length = pl.length := List.length_map ..
    by_cases h8 : 8 ≤ pl.length
    · have hsp : (stOf pl left).append s.data.toList t = (stOf pl left, 25) := by
        unfold DS.append
        rw [hd, if_neg (by decide), hw, if_neg (by decide), find_st, hf]
        show (if 1048576 < t.size then _ else _) = _
        rw [if_neg hb, if_pos (by omega)]
      have hlen := hown.len Try.underlying51 3
      have d3 : decide (8 ≤ (Maps.size (datum fnm fvl pl) : Int)) = true := decide_eq_true (by omega)
      have d3' : decide (8 ≤ Maps.size (datum fnm fvl pl)) = true := decide_eq_true (by omega)
      rw [hsp]
      clear h hsp hd hw hlk hf hb hsz hfl h8 hown
      go_enter Try.func12, Try.ntmps12
      go_wp2_with fail
      refine HC.out.mono ?_
      rintro e w1 ⟨rfl, rfl⟩
      go_wp2_with fail
      refine HWD.out.mono ?_
      rintro e w2 ⟨rfl, rfl⟩
      go_wp2_with fail
      go_ret
      exact ⟨rfl, HD.out⟩
    · have hsp : (stOf pl left).append s.data.toList t = ((stOf pl left).did (putN FE.nm { nm := s.data.toList, b := t, safe := 0 } (stOf pl left).fs), 0) := by
        unfold DS.append
        rw [hd, if_neg (by decide), hw, if_neg (by decide), find_st, hf]
        show (if 1048576 < t.size then _ else _) = _
        rw [if_neg hb, if_neg (by omega)]
      have hlen := hown.len Try.underlying51 3
      have d3 : decide (8 ≤ (Maps.size (datum fnm fvl pl) : Int)) = false := decide_eq_false (by omega)
      have d3' : decide (8 ≤ Maps.size (datum fnm fvl pl)) = false := decide_eq_false (by omega)
      rw [hsp, put_st ({ nm := s.data.toList, b := t, safe := 0 }, W.heap.size)]
      have hsp0 : (stOf pl left).append s.data.toList ⟨#[]⟩ = ((stOf pl left).did (putN FE.nm { nm := s.data.toList, b := ⟨#[]⟩, safe := 0 } (stOf pl left).fs), 0) := by
        unfold DS.append
        rw [hd, if_neg (by decide), hw, if_neg (by decide), find_st, hf]
        show (if 1048576 < (⟨#[]⟩ : ByteArray).size then _ else _) = _
        rw [if_neg (by decide), if_neg (by omega)]
      have hwf0 := wf_append h.wf s.data.toList ⟨#[]⟩
      rw [hsp0, put_st ({ nm := s.data.toList, b := ⟨#[]⟩, safe := 0 }, W.heap.size)] at hwf0
      have HWF := Lib.hid (wf_left (l2 := left) hwf0)
      have HB1 : Hid (Below W.heap.size W (W.alloc (.cells #[.string ⟨#[]⟩, .int .i64 0] 58))) := show Below _ _ _ from bw_alloc (Below.refl _ _) _
      have hD1 := h.next HB1.out
      have k01 := hD1.c0
      have hown1 := hD1.m
      have hx1 : (W.alloc (.cells #[.string ⟨#[]⟩, .int .i64 0] 58)).heap[W.heap.size]? = some (.cells #[.string ⟨#[]⟩, .int .i64 0] 58 (0, 0)) := heap_alloc_new W _
      have HD1 := Lib.hid hD1
      have HX1 := Lib.hid hx1
      have H := Lib.hid h
      have HUP := Lib.hid (up_left hd)
      have HKEY := Lib.hid (key_str hs)
      have HTB : Hid (t.size ≤ 1048576) := show _ ≤ _ from by omega
      have HW := Lib.hid hw
      have hl1 : pl.length < maxLen := Nat.lt_of_le_of_lt h.len (by decide)
      have HNEW : Hid (∀ p ∈ pl, p.2 ≠ W.heap.size) := show ∀ p ∈ pl, _ from fun p hp => Nat.ne_of_lt (block_lt (h.f p hp))
      have HLO : Hid (N ≤ W.heap.size) := show _ ≤ _ from h.szb
      have hsum : ¬ 9223372036854775807 < t.size := by omega
      clear h hsp hd hw hlk hf hb hsz hfl h8 hown hD1 hx1 hsp0 hwf0 HD
      go_enter Try.func12, Try.ntmps12
      go_wp2_with fail
      refine HC.out.mono ?_
      rintro e w1 ⟨rfl, rfl⟩
      go_wp2_with fail
      refine HWD.out.mono ?_
      rintro e w2 ⟨rfl, rfl⟩
      go_wp2_with (first
        | (with_reducible refine wpList_build rfl 58 [] rfl [] (.agg #[.string ⟨#[]⟩, .int .i64 0]) rfl (file_build _) ?_)
        | ((at_mapUpdate; refine wpList_mapUpdate_own _ rfl (.tmp 60) (.tmp 61) (.tmp 62) 51 rfl 9 55 law Try.underlying51 ptrElem bm pl.length (datum fnm fvl pl) (by rfl) hown1 hl1 (.string s) (.pointer (some ⟨w2.heap.size, 0, none⟩)) _ (by rfl) (by rfl) HKEY.out _ [] (ptrElem_mk w2.heap.size) ?_); intro w5 hown5 hgrow5; have hT5 := Turn.grown hgrow5; have hD5 := HD1.out.store (x := ({ nm := s.data.toList, b := ⟨#[]⟩, safe := 0 }, w2.heap.size)) HX1.out HNEW.out HLO.out HWF.out hown5 hT5; have kb5 := hD5.fb (mem_put_self _ _); have cz5 : w5.frozen? ⟨w2.heap.size, 0, none⟩ = false := frozen_of_row w5 w2.heap.size 0 _ _ (hD5.f _ (mem_put_self _ _)); have HD5 := Lib.hid hD5; have HT5 := Lib.hid hT5; clear hown1 hown5 hgrow5 hT5 hD5 k0 k01))
      have hT6 := Turn.set w5 w2.heap.size 0 (.string t)
      have hrow := set_row (i := 0) (cs := [.string ⟨#[]⟩, .int .i64 ((0 : Nat) : Int)]) (HD5.out.f _ (mem_put_self _ _)) (.string t)
      have hD6 := HD5.out.upd (p := ({ nm := s.data.toList, b := ⟨#[]⟩, safe := 0 }, w2.heap.size)) (mem_put_self _ _) (y := { nm := s.data.toList, b := t, safe := 0 }) rfl ⟨HW.out, Nat.zero_le _, HTB.out⟩ hT6 hrow
      rw [putN_putN (nm := fnm) (f := ({ nm := s.data.toList, b := t, safe := 0 }, w2.heap.size)) (g := ({ nm := s.data.toList, b := ⟨#[]⟩, safe := 0 }, w2.heap.size)) rfl] at hD6
      have HD6 := Lib.hid hD6
      have HT6 := Lib.hid hT6
      clear hT6 hrow hD6
      refine (done_any _ HD6.out HUP.out).mono ?_
      rintro e w7 ⟨rfl, hD7, hT7⟩
      have HD7 := Lib.hid hD7
      have HT7 := Lib.hid hT7
      clear hD7 hT7
      go_wp2_with fail
      go_ret
      refine ⟨rfl, ⟨⟨_, _, HD7.out, rfl, fun q hq => ?_⟩, ((((Turn.of_below HB1.out (Its bd bm pl)).trans HT5.out fun k _ e => .inr (.inl e)).trans HT6.out fun k hk e => absurd hk (by omega)).trans HT7.out fun k _ e => .inl e)⟩⟩
      rcases mem_putN hq with rfl | hq
      · exact .inl (Nat.le_refl _)
      · exact .inr ⟨q, hq, rfl⟩
theorem append_any {N : Nat} {w : World} {bd bm : Nat} {pl : List FB} {left : Option Nat} (W : World) (h : DkAt N w W bd bm pl left) (s t : ByteArray) (hs : s.size ≤ 140737488355328) (ht : t.size ≤ 140737488351232) :
    Calls Try.prog 12 #[.pointer (some ⟨bd, 0, none⟩), .string s, .string t] W fun e w' => e = .returned (.int .i64 ((stOf pl left).append s.data.toList t).2) ∧ DkTo N w W w' bd bm pl ((stOf pl left).append s.data.toList t).1 := by
  cases hd : (stOf pl left).down with
  | true => exact append_fail W h s t hs ht (.inl hd)
  | false =>
    cases hw : isWord s.data.toList with
    | false => exact append_fail W h s t hs ht (.inr hw)
    | true =>
      cases hf : findN fnm s.data.toList pl with
      | none => exact append_new W h s t hs ht hd hw hf
      | some p => exact append_old W h s t hs ht hd hw hf
end Go.Proofs.Ytopdhefhagckoaa
