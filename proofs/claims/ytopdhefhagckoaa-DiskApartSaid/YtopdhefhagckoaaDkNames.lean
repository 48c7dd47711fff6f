/- disk: names: what the call does. -/
import Derived.Test.YtopdhefhagckoaaDkSortNil
import Derived.Test.YtopdhefhagckoaaDkSortAny
import Derived.Sort.KeysCollected
import Derived.Sort.OwnSorted
import Derived.Maps.AppendAt
import Derived.Maps.RangeWalk
import Derived.OwnWalk
namespace Go.Proofs.Ytopdhefhagckoaa
open Go.RowKit Go.Maps Go.Sort
set_option maxHeartbeats 2000000
set_option maxRecDepth 10000
theorem infoStr : (Try.prog.info? 9).map (fun i => (i.zero, i.size, i.bytes)) = some (some (.string ⟨#[]⟩), 1, 16) := by kernel_rfl
theorem names_sorted {pl : List FB} (h : Rising fnm pl) {ss : List (List UInt8)} (hp : ss.Perm (pl.map fnm)) : ss.mergeSort (fun x y => decide (x ≤ y)) = pl.map fnm := by
  have h1 : ss.mergeSort leB = (pl.map fnm).mergeSort leB := mergeSort_of_perm hp
  refine h1.trans ?_
  refine List.mergeSort_of_pairwise ?_
  refine List.Pairwise.imp (fun {a b} (hab : a < b) => ?_) (List.pairwise_map.2 h)
  exact decide_eq_true (List.le_of_lt hab)
theorem names_own {N : Nat} {w : World} {bd bm : Nat} {pl : List FB} {left : Option Nat} (W : World) (h : DkAt N w W bd bm pl left) :
    Calls Try.prog 30 #[.pointer (some ⟨bd, 0, none⟩)] W fun e w' => ∃ v, e = .returned v ∧ w'.ownsRow W.heap.size 9 1 v pl.length ((pl.map fnm).map encStr) ∧ Below W.heap.size W w' := by
  obtain ⟨i0, hi, hz0, hz1, hz2⟩ := info_parts infoStr
  have k0 := h.c0
  have hown := h.m
  have hbl := hown.lt
  have HSZ : Hid (Maps.size (datum fnm fvl pl) = pl.length) := show _ = _ from datum_size pl
  have HL := Lib.hid h.len
  have HR := Lib.hid h.rise
  clear h
  obtain ⟨D0, hD0⟩ : ∃ D, D = datum fnm fvl pl := ⟨_, rfl⟩
  have HK : Hid (strKeys D0 = pl.map fnm) := show _ = _ from by rw [hD0]; exact keys_datum pl
  rw [← hD0] at hown HSZ
  have HB0 : Hid (Maps.size D0 ≤ 8) := show _ ≤ _ from by rw [HSZ.out]; exact HL.out
  clear hD0
  go_enter Try.func30, Try.ntmps30
  go_wp2_with (at_range; refine wpList_range_own _ rfl (.tmp 8) 51 rfl 9 55 law Try.underlying51 ptrElem bm pl.length D0 (by rfl) hown ?_; intro w0 hrg0 hg0 hs0)
  have HHS := Lib.hid hs0
  clear hs0
  have hbase0 : W.heap.size ≤ w0.heap.size := hg0.size
  go_frame
  go_loopw [3] (fun v wr => ∃ (left : Lit → Bool) (cnt : Nat) (ss : List (List UInt8)), wr.ranges Try.prog 9 ptrElem bm W.heap.size pl.length D0 left cnt ∧ ss.length + cnt ≤ Maps.size D0 ∧
      wr.ownsRow W.heap.size 9 1 v ss.length (ss.map encStr) ∧ Collected D0 left ss ∧ Below W.heap.size W wr)
    (fun _ wr => wr.rangeLeft bm W.heap.size)
  case atStart => exact ⟨_, _, [], hrg0, by simp, ⟨rfl, .inl ⟨rfl, rfl⟩⟩, Collected.start D0, (Below.refl _ _).grown hg0 (Nat.le_refl _) (fun j hj => by cases hj)⟩
  case round =>
    obtain ⟨left, cnt, ss, hrg, hcs, hrow, hC, hnx⟩ := hrel
    go_wp2_with (at_next; refine wpList_next_ranges _ rfl (.tmp 9) rfl 9 law ptrElem encStr (fun v : Value => v) (fun key kl hk => by obtain ⟨x, hx, _⟩ := Maps.keyOf_str Try.underlying9 hk; exact ⟨x, hx⟩) (fun v y hv => ⟨v, rfl⟩) bm W.heap.size pl.length D0 left cnt rfl hrg ?_ ?_)
    · intro hc0 hl0
      have HP := Lib.hid (hC.perm hown law Try.underlying9 hl0)
      rcases hrow.2 with ⟨rfl, hn⟩ | ⟨g, cap, cur, rfl, hbase, hb, h1, h2, h3, h4⟩
      · have hss : ss = [] := List.length_eq_zero_iff.1 hn
        subst hss
        have HE : Hid (pl.map fnm = []) := show _ = _ from by rw [← HK.out]; exact HP.out.nil_eq.symm
        go_wp2_with fail
        refine (sort_nil _).mono ?_
        rintro e w' ⟨rfl, rfl⟩
        go_wp2_with fail
        go_ret
        have hl : pl.length = 0 := by
          have h9 := congrArg List.length HE.out
          rw [List.length_map] at h9
          exact h9
        exact ⟨_, rfl, by rw [HE.out, hl]; exact ⟨rfl, .inl ⟨rfl, rfl⟩⟩, hnx⟩
      · have hH : Holds encStr wr g 0 ss.toArray := holds_of_block hb (by simpa using h4)
        have hgl : g < wr.heap.size := (Array.getElem?_eq_some_iff.1 hb).1
        have HC := Lib.hid (sort_any g 0 cap ss wr hH hgl (by have := HB0.out; omega))
        go_wp2_with fail
        refine HC.out.mono ?_
        rintro e w' ⟨rfl, nn, os, rfl⟩
        go_wp2_with fail
        go_ret
        have hpm := HP.out
        rw [HK.out] at hpm
        have hso := names_sorted HR.out hpm
        have hlen : pl.length = ss.length := by have := HP.out.length_eq; rw [HK.out] at this; simpa using this.symm
        refine ⟨_, rfl, ?_, hnx.grown (grownBy_sorted _) hnx.size (fun j hj => by cases hj; exact hbase)⟩
        rw [hlen, ← hso]
        exact ownsRow_sorted (by simp) hbase hb h1 h2 h3
    · intro x c kl yd yp w2 cnt2 hkey hlk hv hat hrg2 hlt hg2 hs2 hen
      obtain ⟨x', ex, rfl, _⟩ := Maps.keyOf_str Try.underlying9 hkey
      obtain rfl : x = x' := encStr_inj ex
      have hrow2 := hrow.kept hg2 (Or.inr (row_ne_iter hrow hrg).symm)
      have HB08 := HB0.out
      clear hs2
      go_wp2_with (at_builtin; refine wpList_append_own _ rfl (.tmp 14) (.tmp 16) 29 rfl W.heap.size 9 i0 (.string ⟨#[]⟩) 1 16 Try.underlying29 hi hz0 hz1 hz2 rfl (by decide) _ _ _ rfl (hrow2.alloc _) ⟨w2.heap.size, 0, none⟩ 1 1 [encStr x] rfl rfl (cell_one_new _ _ _) (by simp [Value.oneCell', encStr]) (by unfold maxLen at *; omega) (by omega) (by have := hnx.size; have := hg2.size; simp; omega) ?_; intro v' w3 hown' hg3 hnil3; go_frame)
      have hrg3 := (hrg2.alloc _).kept hg3 (row_ne_low hrow2 hbl) (row_ne_iter hrow2 hrg2)
      go_roundw
      case rel =>
        refine ⟨_, cnt2, ss ++ [x], hrg3, by simp; omega, by simpa using hown', hC.step hlk hat, ?_⟩
        exact ((hnx.grown hg2 hnx.size (fun j hj => by cases hj; exact Nat.le_refl _)).alloc (by have := hnx.size; have := hg2.size; omega) _).grown hg3 (by have := hnx.size; have := hg2.size; simp; omega) (fun j hj => (hrow2.lt j hj).1)
      case measure => rw [hrg3.left_eq, hrg.left_eq]; exact hlt
theorem names_any {N : Nat} {w : World} {bd bm : Nat} {pl : List FB} {left : Option Nat} (W : World) (h : DkAt N w W bd bm pl left) :
    Calls Try.prog 14 #[.pointer (some ⟨bd, 0, none⟩)] W fun e w' => ∃ v, e = .returned v ∧ w'.ownsRow W.heap.size 9 1 v (stOf pl left).names.length ((stOf pl left).names.map encStr) ∧ Below W.heap.size W w' := by
  have HC := Lib.hid (wrong_any W h)
  cases hr : (stOf pl left).down
  · rw [hr] at HC
    have hn : (stOf pl left).names = pl.map fnm := by
      unfold DS.names
      rw [hr, if_neg (by decide)]
      exact List.map_map ..
    rw [hn, List.length_map]
    have HN := Lib.hid (names_own W h)
    clear hr h hn
    go_enter Try.func14, Try.ntmps14
    go_wp2_with fail
    refine HC.out.mono ?_
    rintro e w1 ⟨rfl, rfl⟩
    go_wp2_with fail
    refine HN.out.mono ?_
    rintro e w2 ⟨v, rfl, hO, hB⟩
    have HO := Lib.hid hO
    have HB := Lib.hid hB
    clear hO hB
    go_wp2_with fail
    go_ret
    exact ⟨_, rfl, HO.out, HB.out⟩
  · rw [hr] at HC
    have hn : (stOf pl left).names = [] := by
      unfold DS.names
      rw [hr, if_pos rfl]
    rw [hn]
    clear hr h hn
    go_enter Try.func14, Try.ntmps14
    go_wp2_with fail
    refine HC.out.mono ?_
    rintro e w1 ⟨rfl, rfl⟩
    go_wp2_with fail
    go_ret
    exact ⟨_, rfl, ⟨rfl, .inl ⟨rfl, rfl⟩⟩, Below.refl _ _⟩
end Go.Proofs.Ytopdhefhagckoaa
