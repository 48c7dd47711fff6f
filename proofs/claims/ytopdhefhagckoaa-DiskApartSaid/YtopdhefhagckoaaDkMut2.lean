/- disk: Remove, Rename: what the calls do. -/
import Derived.Test.YtopdhefhagckoaaDkMut
namespace Go.Proofs.Ytopdhefhagckoaa
open Go.RowKit Go.Maps
set_option maxHeartbeats 2000000
set_option maxRecDepth 4000
theorem drop_st (k : List UInt8) (pl : List FB) (left : Option Nat) : (stOf pl left).did (dropN FE.nm k (stOf pl left).fs) = stOf (dropN fnm k pl) (left.map fun k => k - 1) := by
  show DS.mk _ _ = DS.mk _ _
  rw [show files (dropN fnm k pl) = dropN FE.nm k (files pl) from dropN_map (nm := fnm) (nm' := FE.nm) (fun _ => rfl) k pl]
  rfl
theorem fnd_fail {pl : List FB} {left : Option Nat} {nm : List UInt8} {k : Int} (hr : fnd pl left nm = (none, k)) : ((stOf pl left).down = true ∧ k = 8) ∨ ((stOf pl left).down = false ∧ k = 34 ∧ findN fnm nm pl = none) := by
  unfold fnd at hr
  split at hr
  · rename_i hd; cases hr; exact .inl ⟨hd, rfl⟩
  · rename_i hd
    cases hf : findN fnm nm pl with
    | none => rw [hf] at hr; cases hr; exact .inr ⟨by simpa using hd, rfl, rfl⟩
    | some q => rw [hf] at hr; cases hr
theorem remove_any {N : Nat} {w : World} {bd bm : Nat} {pl : List FB} {left : Option Nat} (W : World) (h : DkAt N w W bd bm pl left) (s : ByteArray) (hs : s.size ≤ 140737488355328) :
    Calls Try.prog 25 #[.pointer (some ⟨bd, 0, none⟩), .string s] W fun e w' => e = .returned (.int .i64 ((stOf pl left).remove s.data.toList).2) ∧ DkTo N w W w' bd bm pl ((stOf pl left).remove s.data.toList).1 := by
  have HC := Lib.hid (find_any W h s hs)
  cases hr : fnd pl left s.data.toList with
  | mk o k =>
    rw [hr] at HC
    cases o with
    | none =>
      have hk : (k == 0) = false := by rw [beq_eq_false_iff_ne]; exact fnd_none hr
      have hsp : (stOf pl left).remove s.data.toList = (stOf pl left, k) := by
        unfold DS.remove
        rcases fnd_fail hr with ⟨hd, rfl⟩ | ⟨hd, rfl, hf⟩
        · rw [if_pos hd]
        · rw [hd, if_neg (by decide), find_st, hf]; rfl
      rw [hsp]
      have HD : Hid (DkTo N w W W bd bm pl (stOf pl left)) := show DkTo _ _ _ _ _ _ _ _ from ⟨⟨pl, left, h, rfl, fun p hp => .inr ⟨p, hp, rfl⟩⟩, Turn.refl _ _⟩
      clear hr h hsp
      go_enter Try.func25, Try.ntmps25
      go_wp2_with fail
      refine HC.out.mono ?_
      rintro e w1 ⟨rfl, rfl⟩
      go_wp2_with fail
      go_ret
      exact ⟨rfl, HD.out⟩
    | some p =>
      obtain ⟨hp, rfl, hn, hd, hf⟩ := fnd_mem hr
      have HC' : Hid (Calls Try.prog 29 #[.pointer (some ⟨bd, 0, none⟩), .string s] W fun e w' => e = .returned (.tuple #[.pointer (some ⟨p.2, 0, none⟩), .int .i64 0]) ∧ w' = W) := HC
      have hsp : (stOf pl left).remove s.data.toList = ((stOf pl left).did (dropN FE.nm s.data.toList (stOf pl left).fs), 0) := by
        unfold DS.remove
        rw [hd, if_neg (by decide), find_st, hf]
        rfl
      rw [hsp, drop_st]
      have k0 := h.c0
      have hown := h.m
      have H := Lib.hid h
      have HKEY := Lib.hid (key_str hs)
      have HUP := Lib.hid (up_left hd)
      clear hr h HC hn hd hf hsp hp
      go_enter Try.func25, Try.ntmps25
      go_wp2_with fail
      refine HC'.out.mono ?_
      rintro e w1 ⟨rfl, rfl⟩
      go_wp2_with ((at_delete; refine wpList_delete_own _ rfl (.tmp 19) (.tmp 20) 51 9 rfl 55 law Try.underlying51 ptrElem bm pl.length (datum fnm fvl pl) (by rfl) hown (.string s) _ (by rfl) HKEY.out ?_); intro w3 hown3 hmt3)
      have hT3 := Turn.grown hmt3.grown
      have HD3 := Lib.hid (H.out.del s.data.toList hown3 hT3)
      have HT3 := Lib.hid hT3
      clear hown hown3 hmt3 hT3 k0
      refine (done_any _ HD3.out HUP.out).mono ?_
      rintro e w2 ⟨rfl, hD2, hT2⟩
      have HD2 := Lib.hid hD2
      have HT2 := Lib.hid hT2
      clear hD2 hT2
      go_wp2_with fail
      go_ret
      exact ⟨rfl, ⟨⟨_, _, HD2.out, rfl, fun q hq => .inr ⟨q, (List.mem_filter.1 hq).1, rfl⟩⟩, (HT3.out.mono fun k _ e => .inr (.inl e)).trans HT2.out fun k _ e => .inl e⟩⟩
theorem DkAt.same {N : Nat} {w W : World} {bd bm : Nat} {pl : List FB} {left : Option Nat} (h : DkAt N w W bd bm pl left) {p q : FB} (hp : p ∈ pl) (hq : q ∈ pl) (e : q.2 = p.2) : q = p := by
  obtain ⟨i, hi, rfl⟩ := List.mem_iff_getElem.1 hq
  obtain ⟨j, hj, rfl⟩ := List.mem_iff_getElem.1 hp
  have h1 := List.pairwise_iff_getElem.1 h.nd
  have hij : i = j := by
    rcases Nat.lt_trichotomy i j with hlt | he | hlt
    · exact absurd (by rw [List.getElem_map, List.getElem_map]; exact e) (h1 i j (by simpa using hi) (by simpa using hj) hlt)
    · exact he
    · exact absurd (by rw [List.getElem_map, List.getElem_map]; exact e.symm) (h1 j i (by simpa using hj) (by simpa using hi) hlt)
  subst hij
  rfl
theorem DkAt.len {N : Nat} {w W : World} {bd bm : Nat} {pl : List FB} {left : Option Nat} (h : DkAt N w W bd bm pl left) : pl.length ≤ 8 := by
  have := h.wf.few
  have h4 : (stOf pl left).fs.length = pl.length := List.length_map ..
  omega
theorem wf_left {pl : List FB} {l1 l2 : Option Nat} (h : (stOf pl l1).wf) : (stOf pl l2).wf := ⟨h.rising, h.files, h.few⟩
theorem rename_st (x : FB) (k : List UInt8) (pl : List FB) (left : Option Nat) : (stOf pl left).did (putN FE.nm x.1 (dropN FE.nm k (stOf pl left).fs)) = stOf (putN fnm x (dropN fnm k pl)) (left.map fun k => k - 1) := by
  show DS.mk _ _ = DS.mk _ _
  rw [show files (putN fnm x (dropN fnm k pl)) = putN FE.nm x.1 (files (dropN fnm k pl)) from putN_map (nm := fnm) (nm' := FE.nm) (fun _ => rfl) x _, show files (dropN fnm k pl) = dropN FE.nm k (files pl) from dropN_map (nm := fnm) (nm' := FE.nm) (fun _ => rfl) k pl]
  rfl
theorem rename_any {N : Nat} {w : World} {bd bm : Nat} {pl : List FB} {left : Option Nat} (W : World) (h : DkAt N w W bd bm pl left) (s t : ByteArray) (hs : s.size ≤ 140737488355328) (ht : t.size ≤ 140737488355328) :
    Calls Try.prog 24 #[.pointer (some ⟨bd, 0, none⟩), .string s, .string t] W fun e w' => e = .returned (.int .i64 ((stOf pl left).rename s.data.toList t.data.toList).2) ∧ DkTo N w W w' bd bm pl ((stOf pl left).rename s.data.toList t.data.toList).1 := by
  have HC := Lib.hid (find_any W h s hs)
  have HD : Hid (DkTo N w W W bd bm pl (stOf pl left)) := show DkTo _ _ _ _ _ _ _ _ from ⟨⟨pl, left, h, rfl, fun p hp => .inr ⟨p, hp, rfl⟩⟩, Turn.refl _ _⟩
  cases hr : fnd pl left s.data.toList with
  | mk o k =>
    rw [hr] at HC
    cases o with
    | none =>
      have hk : (k == 0) = false := by rw [beq_eq_false_iff_ne]; exact fnd_none hr
      have hsp : (stOf pl left).rename s.data.toList t.data.toList = (stOf pl left, k) := by
        unfold DS.rename
        rcases fnd_fail hr with ⟨hd, rfl⟩ | ⟨hd, rfl, hf⟩
        · rw [if_pos hd]
        · rw [hd, if_neg (by decide), find_st, hf]; rfl
      rw [hsp]
      clear hr h hsp
      go_enter Try.func24, Try.ntmps24
      go_wp2_with fail
      refine HC.out.mono ?_
      rintro e w1 ⟨rfl, rfl⟩
      go_wp2_with fail
      go_ret
      exact ⟨rfl, HD.out⟩
    | some p =>
      obtain ⟨hp, rfl, hn, hd, hf⟩ := fnd_mem hr
      have HC' : Hid (Calls Try.prog 29 #[.pointer (some ⟨bd, 0, none⟩), .string s] W fun e w' => e = .returned (.tuple #[.pointer (some ⟨p.2, 0, none⟩), .int .i64 0]) ∧ w' = W) := HC
      have HWD : Hid (Calls Try.prog 27 #[.string t] W fun e w' => e = .returned (.bool (isWord t.data.toList)) ∧ w' = W) := word_any t W
      cases hw : isWord t.data.toList with
      | false =>
        have hsp : (stOf pl left).rename s.data.toList t.data.toList = (stOf pl left, 2) := by
          unfold DS.rename
          rw [hd, if_neg (by decide), find_st, hf]
          show (if isWord t.data.toList = false then _ else _) = _
          rw [if_pos hw]
        rw [hsp]
        rw [hw] at HWD
        clear hr h HC hn hd hf hsp hp hw
        go_enter Try.func24, Try.ntmps24
        go_wp2_with fail
        refine HC'.out.mono ?_
        rintro e w1 ⟨rfl, rfl⟩
        go_wp2_with fail
        refine HWD.out.mono ?_
        rintro e w2 ⟨rfl, rfl⟩
        go_wp2_with fail
        go_ret
        exact ⟨rfl, HD.out⟩
      | true =>
        have hsp : (stOf pl left).rename s.data.toList t.data.toList = ((stOf pl left).did (putN FE.nm { p.1 with nm := t.data.toList } (dropN FE.nm s.data.toList (stOf pl left).fs)), 0) := by
          unfold DS.rename
          rw [hd, if_neg (by decide), find_st, hf]
          show (if isWord t.data.toList = false then _ else _) = _
          rw [hw, if_neg (by decide)]
        have hwf := wf_rename h.wf s.data.toList t.data.toList
        rw [hsp, rename_st ({ p.1 with nm := t.data.toList }, p.2)] at hwf
        rw [hsp, rename_st ({ p.1 with nm := t.data.toList }, p.2)]
        rw [hw] at HWD
        have k0 := h.c0
        have hown := h.m
        have H := Lib.hid h
        have HWF := Lib.hid (wf_left (l2 := left) hwf)
        have HKEY := Lib.hid (key_str hs)
        have HKEYT := Lib.hid (key_str ht)
        have HUP := Lib.hid (up_left hd)
        have HP := Lib.hid hp
        have HN := Lib.hid hn
        clear hr h HC hn hd hf hsp hp hw hwf HD
        go_enter Try.func24, Try.ntmps24
        go_wp2_with fail
        refine HC'.out.mono ?_
        rintro e w1 ⟨rfl, rfl⟩
        go_wp2_with fail
        refine HWD.out.mono ?_
        rintro e w2 ⟨rfl, rfl⟩
        go_wp2_with (first
          | ((at_delete; refine wpList_delete_own _ rfl (.tmp 24) (.tmp 25) 51 9 rfl 55 law Try.underlying51 ptrElem bm pl.length (datum fnm fvl pl) (by rfl) hown (.string s) _ (by rfl) HKEY.out ?_); intro w3 hown3 hmt3; have hT3 := Turn.grown hmt3.grown; have hD3 := H.out.del s.data.toList hown3 hT3; have hown4 := hD3.m; have hl4 : (dropN fnm s.data.toList pl).length < maxLen := Nat.lt_of_le_of_lt hD3.len (by decide); have k03 := hD3.c0; have HD3 := Lib.hid hD3; have HT3 := Lib.hid hT3; clear hown hown3 hmt3 hT3 k0 hD3)
          | ((at_mapUpdate; refine wpList_mapUpdate_own _ rfl (.tmp 29) (.tmp 30) (.tmp 31) 51 rfl 9 55 law Try.underlying51 ptrElem bm (dropN fnm s.data.toList pl).length (datum fnm fvl (dropN fnm s.data.toList pl)) (by rfl) hown4 hl4 (.string t) (.pointer (some ⟨p.2, 0, none⟩)) _ (by rfl) (by rfl) HKEYT.out _ [] (ptrElem_mk p.2) ?_); intro w5 hown5 hgrow5))
        have hT5 := Turn.grown hgrow5
        have hx : w3.heap[p.2]? = some (.cells #[.string p.1.b, .int .i64 (p.1.safe : Int)] 58 (0, 0)) := (HT3.out.block p.2 (block_lt (H.out.f p HP.out)) (H.out.ne_f HP.out).2).trans (H.out.f p HP.out)
        have hnew : ∀ q ∈ dropN fnm s.data.toList pl, q.2 ≠ p.2 := fun q hq e => by
          have h1 := List.mem_filter.1 hq
          have h2 := H.out.same HP.out h1.1 e
          subst h2
          have h3 := h1.2
          rw [decide_eq_true_iff] at h3
          exact h3 HN.out
        have HD5 := Lib.hid (HD3.out.store (x := ({ p.1 with nm := t.data.toList }, p.2)) hx hnew (H.out.lo.2.2 p HP.out) HWF.out hown5 hT5)
        have HT5 := Lib.hid hT5
        clear hown4 hown5 hgrow5 hT5 hx hnew k03
        refine (done_any _ HD5.out HUP.out).mono ?_
        rintro e w6 ⟨rfl, hD6, hT6⟩
        have HD6 := Lib.hid hD6
        have HT6 := Lib.hid hT6
        clear hD6 hT6
        go_wp2_with fail
        go_ret
        refine ⟨rfl, ⟨⟨_, _, HD6.out, rfl, fun q hq => .inr ?_⟩, ((HT3.out.mono fun k _ e => .inr (.inl e)).trans HT5.out fun k _ e => .inr (.inl e)).trans HT6.out fun k _ e => .inl e⟩⟩
        rcases mem_putN hq with rfl | hq
        · exact ⟨p, HP.out, rfl⟩
        · exact ⟨q, (List.mem_filter.1 hq).1, rfl⟩
end Go.Proofs.Ytopdhefhagckoaa
