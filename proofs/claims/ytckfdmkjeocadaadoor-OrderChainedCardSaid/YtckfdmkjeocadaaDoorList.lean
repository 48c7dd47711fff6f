/- octets.Text, octets.List: what the calls do. -/
import Derived.Test.YtckfdmkjeocadaaDoorNum
import Derived.Test.YtckfdmkjeocadaaDoorJoin
namespace Go.Proofs.YtckfdmkjeocadaaDoor
open Go.RowKit
def encText (s : ByteArray) : List UInt8 := numEnc s.size ++ s.data.toList
def encTexts (ls : List ByteArray) : List UInt8 := (ls.map encText).flatten
def encList (ls : List ByteArray) : List UInt8 := numEnc ls.length ++ encTexts ls
theorem flat_pair (a : List UInt8) (s : ByteArray) : flat [bstr a, s] = a ++ s.data.toList := by simp [flat, bstr]
theorem num_small {n : Nat} (h : n ≤ 16777215) : (numEnc n).length ≤ 4 := by
  rw [numEnc_length]
  have := numB_length_le 3 n (by omega)
  omega
theorem rd_two {W w : World} {x y : ByteArray} {t : TypeId} (hW : W = w.alloc (.cells #[.string x, .string y] t)) :
    RdStrs W (.slice (some ⟨w.heap.size, 0, none⟩) 2 2) [x, y] := by
  subst hW
  refine ⟨_, 2, rfl, by simp, w.heap.size, 0, by simp, fun k hk => ⟨rfl, ?_⟩⟩
  rw [cell_of_row _ w.heap.size (0 + k) _ _ _ (heap_alloc_new w _)]
  match k, hk with
  | 0, _ => rfl
  | 1, _ => rfl
set_option maxHeartbeats 400000 in
theorem text_any (s : ByteArray) (w : World) (h : s.size ≤ 65536) :
    Calls Tryd.prog 87 #[.string s] w fun e w' => e = .returned (.tuple #[.string (bstr (encText s)), .int .i64 0]) ∧ Below w.heap.size w w' := by
  have hn := num_small (n := s.size) (by omega)
  go_enter Tryd.func87, Tryd.ntmps87
  go_wp2_with fail
  refine (number_any _ _ (by omega) (by omega)).mono ?_
  rintro e w1 ⟨rfl, hb⟩
  have HB := Lib.hid hb
  clear hb
  go_wp2_with fail
  refine (join_any _ [bstr (numEnc s.size), s] _ (rd_two rfl) (by simp [tot, bstr_size]; omega)).mono ?_
  rintro e w2 ⟨rfl, hb2⟩
  have HB2 := Lib.hid hb2
  clear hb2
  go_wp2_with fail
  go_ret2
  rw [flat_pair]
  exact ⟨rfl, bw_call (bw_alloc HB.out _) HB2.out⟩
set_option maxHeartbeats 400000 in
theorem text_big (s : ByteArray) (w : World) (h : 65536 < s.size) :
    Calls Tryd.prog 87 #[.string s] w fun e w' => e = .returned (.tuple #[.string ByteArray.empty, .int .i64 3]) ∧ w' = w := by
  go_enter Tryd.func87, Tryd.ntmps87
  go_wp2
  go_ret2
  exact ⟨rfl, rfl⟩
theorem str_info : Tryd.prog.info? 9 = some { ((Tryd.prog.info? 9).getD default) with zero := some (.string ByteArray.empty), size := 1, bytes := 16 } := by kernel_rfl
def strs (ls : List ByteArray) : List Value := ls.map Value.string
theorem strs_one (s : ByteArray) : strs [s] = [.string s] := rfl
theorem strs_app (a b : List ByteArray) : strs (a ++ b) = strs a ++ strs b := by simp [strs]
theorem own_one {W w : World} {x : ByteArray} {t : TypeId} {B : Nat} (hB : B ≤ w.heap.size) (hW : W = w.alloc (.cells #[.string x] t)) :
    W.ownsRow B t 1 (.slice (some ⟨w.heap.size, 0, none⟩) 1 1) 1 (strs [x]) := by
  subst hW
  exact ⟨rfl, .inr ⟨_, 1, #[.string x], rfl, hB, heap_alloc_new w _, Nat.le_refl _, by simp [maxLen], rfl, rfl⟩⟩
def encd (ls : List ByteArray) : List ByteArray := ls.map fun s => bstr (encText s)
theorem encd_tot : ∀ (ls : List ByteArray), (∀ s ∈ ls, s.size ≤ 65536) → tot (encd ls) ≤ tot ls + 4 * ls.length
  | [], _ => by simp [tot, encd]
  | s :: ls, h => by
    have ih := encd_tot ls (fun x hx => h x (by simp [hx]))
    have h1 := num_small (n := s.size) (by have := h s (by simp); omega)
    have h2 : s.data.toList.length = s.size := rfl
    simp only [tot, encd, List.map_cons, List.sum_cons, List.length_cons, bstr_size, encText, List.length_append] at ih ⊢
    omega
theorem size_le_tot {ls : List ByteArray} {s : ByteArray} (h : s ∈ ls) : s.size ≤ tot ls := by
  induction ls with
  | nil => simp at h
  | cons x l ih =>
    simp only [tot, List.map_cons, List.sum_cons] at ih ⊢
    rcases List.mem_cons.1 h with rfl | h
    · omega
    · have := ih h; omega
theorem flat_encd (ls : List ByteArray) : flat (bstr (numEnc ls.length) :: encd ls) = encList ls := by
  unfold flat encList encTexts encd
  rw [List.map_cons, List.flatten_cons, bstr_toList, List.map_map]
  rfl
theorem list_tot {ls : List ByteArray} (hl : ls.length ≤ 1024) (ht : tot ls ≤ 65536) : tot (bstr (numEnc ls.length) :: encd ls) ≤ 140737488355328 := by
  have h1 := encd_tot ls fun s hs => Nat.le_trans (size_le_tot hs) ht
  have h2 := num_small (n := ls.length) (by omega)
  simp only [tot, List.map_cons, List.sum_cons, bstr_size] at h1 ht ⊢
  omega
theorem list_snoc {ls : List ByteArray} {k : Nat} (h : k < ls.length) : (bstr (numEnc ls.length) :: encd (ls.take k)) ++ [bstr (encText (ls[k]'h))] = bstr (numEnc ls.length) :: encd (ls.take (k + 1)) := by
  rw [List.take_succ_eq_append_getElem h, encd, encd, List.map_append]; rfl
set_option maxHeartbeats 1000000 in
set_option maxRecDepth 4000 in
theorem list_ok (v : Value) (ls : List ByteArray) (w : World) (hv : RdStrs w v ls) (hl : ls.length ≤ 1024) (ht : tot ls ≤ 65536) :
    Calls Tryd.prog 57 #[v] w fun e w' => e = .returned (.tuple #[.string (bstr (encList ls)), .int .i64 0]) ∧ Below w.heap.size w w' := by
  obtain ⟨A, c, rfl, _, b, off, hb0, hr⟩ := hv
  have HR := Lib.hid hr
  clear hr
  go_enter Tryd.func57, Tryd.ntmps57
  go_wp2_with fail
  refine (number_any _ _ (by omega) (by omega)).mono ?_
  rintro e w1 ⟨rfl, hb⟩
  have HB := Lib.hid hb
  have hs1 := hb.size
  clear hb
  go_wp2_with fail
  have hown := Lib.hid (own_one (x := bstr (numEnc ls.length)) (t := 9) hs1 (rfl : w1.alloc (.cells #[.string (bstr (numEnc ls.length))] 9) = _))
  go_loopw [6, 7, 25] (fun o left i wr => ∃ k T : Nat, k ≤ ls.length ∧ T + tot (ls.take k) = 65536 ∧ i = .int .i64 k ∧ left = .int .i64 T ∧ Hid (Below w.heap.size w wr) ∧ Hid (wr.ownsRow w.heap.size 9 1 o (k + 1) (strs (bstr (numEnc ls.length) :: encd (ls.take k))))) (fun _ _ i _ => ls.length - (intOf i).toNat)
  case atStart => exact ⟨0, 65536, by omega, rfl, rfl, rfl, HB.out.trans ((((Below.refl _ _).alloc (Nat.le_refl _) _)).mono hs1), hown.out⟩
  case round =>
    clear hown
    obtain ⟨k, T, hk, hT, rfl, rfl, hB, hO⟩ := hrel
    by_cases hlt : k < ls.length
    · obtain ⟨rfl, hc0⟩ := HR.out k hlt
      have hc := join_cell hB.out hb0 hc0
      clear hc0
      have hs := tot_snoc ls k hlt
      have hs2 := tot_le ls (k + 1)
      have hs4 : (ls[k]).size ≤ T := by omega
      have hs5 : (ls[k]).size ≤ 65536 := by omega
      have hT2 : T ≤ 65536 := by omega
      have HS := Lib.hid hs
      have HT := Lib.hid hT
      clear hs hs2 hT
      go_wp2_with fail
      refine (text_any _ _ hs5).mono ?_
      rintro e w2 ⟨rfl, hb2⟩
      have HB2 := Lib.hid (bw_call hB.out hb2)
      have HO2 := Lib.hid (own_below hO.out hb2 (Nat.le_refl _))
      clear hb2
      go_wp2_with ((at_builtin; refine wpList_app1 rfl (.tmp 42) (.tmp 44) 80 9 rfl Tryd.underlying80 _ str_info (.string ByteArray.empty) rfl rfl rfl 16 rfl w.heap.size _ (k + 1) _ rfl HO2.out (.string (bstr (encText ls[k]))) rfl rfl 9 (by omega) (by omega) w HB2.out HB2.out.size (Nat.le_refl _) ?_); intro v3 w3 hO3 hB3)
      go_roundw
      case rel => exact ⟨k + 1, T - (ls[k]).size, by omega, by rw [HS.out]; have := HT.out; omega, by go_num, by go_num, hB3, show _ from by have := hO3.out; rw [← strs_one, ← strs_app, list_snoc hlt] at this; exact this⟩
      case measure => simp [intOf]; omega
    · obtain rfl : k = ls.length := by omega
      have hrd : RdStrs wr u6 (bstr (numEnc ls.length) :: encd ls) := RdStrs.of_own (by have := hO.out; rw [List.take_length] at this; exact this) (by omega) (Nat.lt_of_lt_of_le (by omega : 0 < w.heap.size) hB.out.size)
      go_wp2_with fail
      refine (join_any _ _ _ hrd (list_tot hl ht)).mono ?_
      rintro e w2 ⟨rfl, hb2⟩
      have HB2 := Lib.hid (bw_call hB.out hb2)
      clear hb2
      go_wp2_with fail
      go_ret2
      rw [flat_encd]
      exact ⟨rfl, HB2.out⟩
set_option maxHeartbeats 1000000 in
set_option maxRecDepth 4000 in
theorem list_big (v : Value) (ls : List ByteArray) (w : World) (hv : RdStrs w v ls) (hl : ls.length ≤ 1024) (ht : 65536 < tot ls) :
    Calls Tryd.prog 57 #[v] w fun e w' => e = .returned (.tuple #[.string ByteArray.empty, .int .i64 3]) ∧ Below w.heap.size w w' := by
  obtain ⟨A, c, rfl, _, b, off, hb0, hr⟩ := hv
  have HR := Lib.hid hr
  clear hr
  go_enter Tryd.func57, Tryd.ntmps57
  go_wp2_with fail
  refine (number_any _ _ (by omega) (by omega)).mono ?_
  rintro e w1 ⟨rfl, hb⟩
  have HB := Lib.hid hb
  have hs1 := hb.size
  clear hb
  go_wp2_with fail
  have hown := Lib.hid (own_one (x := bstr (numEnc ls.length)) (t := 9) hs1 (rfl : w1.alloc (.cells #[.string (bstr (numEnc ls.length))] 9) = _))
  go_loopw [6, 7, 25] (fun o left i wr => ∃ k T : Nat, k ≤ ls.length ∧ T + tot (ls.take k) = 65536 ∧ i = .int .i64 k ∧ left = .int .i64 T ∧ Hid (Below w.heap.size w wr) ∧ Hid (wr.ownsRow w.heap.size 9 1 o (k + 1) (strs (bstr (numEnc ls.length) :: encd (ls.take k))))) (fun _ _ i _ => ls.length - (intOf i).toNat)
  case atStart => exact ⟨0, 65536, by omega, rfl, rfl, rfl, HB.out.trans ((((Below.refl _ _).alloc (Nat.le_refl _) _)).mono hs1), hown.out⟩
  case round =>
    clear hown
    obtain ⟨k, T, hk, hT, rfl, rfl, hB, hO⟩ := hrel
    by_cases hlt : k < ls.length
    · obtain ⟨rfl, hc0⟩ := HR.out k hlt
      have hc := join_cell hB.out hb0 hc0
      clear hc0
      have hs := tot_snoc ls k hlt
      have hs2 := tot_le ls (k + 1)
      by_cases hfit : T < (ls[k]).size
      · have HB2 := hB
        clear hs hs2 hT
        go_wp2_with fail
        go_ret2
        exact ⟨rfl, HB2.out⟩
      · have hs4 : (ls[k]).size ≤ T := by omega
        have hs5 : (ls[k]).size ≤ 65536 := by omega
        have hT2 : T ≤ 65536 := by omega
        have HS := Lib.hid hs
        have HT := Lib.hid hT
        clear hs hs2 hT
        go_wp2_with fail
        refine (text_any _ _ hs5).mono ?_
        rintro e w2 ⟨rfl, hb2⟩
        have HB2 := Lib.hid (bw_call hB.out hb2)
        have HO2 := Lib.hid (own_below hO.out hb2 (Nat.le_refl _))
        clear hb2
        go_wp2_with ((at_builtin; refine wpList_app1 rfl (.tmp 42) (.tmp 44) 80 9 rfl Tryd.underlying80 _ str_info (.string ByteArray.empty) rfl rfl rfl 16 rfl w.heap.size _ (k + 1) _ rfl HO2.out (.string (bstr (encText ls[k]))) rfl rfl 9 (by omega) (by omega) w HB2.out HB2.out.size (Nat.le_refl _) ?_); intro v3 w3 hO3 hB3)
        go_roundw
        case rel => exact ⟨k + 1, T - (ls[k]).size, by omega, by rw [HS.out]; have := HT.out; omega, by go_num, by go_num, hB3, show _ from by have := hO3.out; rw [← strs_one, ← strs_app, list_snoc hlt] at this; exact this⟩
        case measure => simp [intOf]; omega
    · exfalso
      obtain rfl : k = ls.length := by omega
      rw [List.take_length] at hT
      omega
set_option maxHeartbeats 400000 in
theorem list_long (v : Value) (ls : List ByteArray) (w : World) (hv : RdStrs w v ls) (hl : 1024 < ls.length) :
    Calls Tryd.prog 57 #[v] w fun e w' => e = .returned (.tuple #[.string ByteArray.empty, .int .i64 3]) ∧ w' = w := by
  obtain ⟨A, c, rfl, hl2, b, off, hb0, hr⟩ := hv
  clear hr
  go_enter Tryd.func57, Tryd.ntmps57
  go_wp2
  go_ret2
  exact ⟨rfl, rfl⟩
end Go.Proofs.YtckfdmkjeocadaaDoor
