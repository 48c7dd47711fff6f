/- notes.number, lay, write: what the calls do. -/
import Derived.Test.YtbeooeihedhabaaDoorRdAll
import Derived.Test.YtbeooeihedhabaaDoorRowB
import Derived.Test.YtbeooeihedhabaaDoorNums
import Derived.Test.YtbeooeihedhabaaDoorReg

namespace Go.Proofs.YtbeooeihedhabaaDoor
open Go.RowKit
set_option maxHeartbeats 1000000
set_option maxRecDepth 4000
def i64s (l : List Int) : List Value := l.map (Value.int .i64)
theorem i64s_at {w : World} {bn : Nat} {l : List Int} {t : TypeId} {fr : Nat × Nat} (h : w.heap[bn]? = some (.cells (i64s l).toArray t fr)) {k : Nat} (hk : k < l.length) : w.cell? ⟨bn, k, none⟩ = some (.int .i64 (l[k]'hk)) := by
  rw [cell_of_row w bn k _ _ _ h, List.getElem?_toArray]
  simp [i64s, List.getElem?_eq_getElem hk]
theorem all_snoc {α : Type} (p : α → Bool) (l : List α) (k : Nat) (h : k < l.length) : (l.take (k + 1)).all p = ((l.take k).all p && p (l[k]'h)) := by
  rw [List.take_succ_eq_append_getElem h, List.all_append]
  simp
theorem all_bad {α : Type} (p : α → Bool) (l : List α) (k : Nat) (h : k < l.length) (hp : p (l[k]'h) = false) : l.all p = false := by
  rw [List.all_eq_false]
  exact ⟨_, List.getElem_mem h, by rw [hp]; decide⟩
theorem nnum_any (l : List Int) (w : World) (bn : Nat) (hn : w.heap[bn]? = some (.cells (i64s l).toArray 3 (0, 0))) (hl : l.length ≤ 16) :
    Calls Tryd.prog 57 #[.slice (some ⟨bn, 0, none⟩) l.length l.length] w fun e w' => e = .returned (.bool (l.all numOk)) ∧ w' = w := by
  have HN := Lib.hid hn
  clear hn
  go_enter Tryd.func57, Tryd.ntmps57
  go_wp2_with fail
  go_loopw [7] (fun i wr => ∃ k : Nat, k ≤ l.length ∧ i = .int .i64 k ∧ Hid ((l.take k).all numOk = true) ∧ wr = w) (fun i _ => l.length - (intOf i).toNat)
  case atStart => exact ⟨0, by omega, rfl, show _ = _ from rfl, rfl⟩
  case round =>
    obtain ⟨k, hk2, rfl, hA, rfl⟩ := hrel
    by_cases hlt : k < l.length
    · have hc := i64s_at HN.out hlt
      by_cases h0 : l[k] < 0
      · have hd := decide_eq_true h0
        have hf : l.all numOk = false := all_bad _ _ _ hlt (by simp [numOk]; omega)
        have HF := Lib.hid hf
        clear hf
        go_wp2_with fail
        go_ret
        exact ⟨by rw [HF.out]; rfl, rfl⟩
      · have hd := decide_eq_false h0
        by_cases h1 : 1099511627776 < l[k]
        · have hd1 := decide_eq_true h1
          have hf : l.all numOk = false := all_bad _ _ _ hlt (by simp [numOk]; omega)
          have HF := Lib.hid hf
          clear hf
          go_wp2_with fail
          go_ret
          exact ⟨by rw [HF.out]; rfl, rfl⟩
        · have hd1 := decide_eq_false h1
          go_wp2_with fail
          go_roundw
          case rel => exact ⟨k + 1, by omega, by go_num, show _ = _ by rw [all_snoc _ _ _ hlt, hA.out]; simp [numOk]; omega, trivial⟩
          case measure => simp [intOf]; omega
    · obtain rfl : k = l.length := by omega
      have hf : l.all numOk = true := by rw [← hA.out, List.take_length]
      have HF := Lib.hid hf
      clear hf
      go_wp2_with fail
      go_ret
      exact ⟨by rw [HF.out]; rfl, rfl⟩
theorem ints_toNat {l : List Int} (h : l.all numOk = true) : i64s l = ints (l.map Int.toNat) := by
  unfold i64s ints
  rw [List.map_map]
  refine List.map_congr_left fun x hx => ?_
  have := List.all_eq_true.1 h x hx
  simp only [numOk, decide_eq_true_eq] at this
  simp only [Function.comp]
  rw [Int.toNat_of_nonneg this.1]
theorem lay_any (l : List Nat) (w : World) (bn : Nat) (hl : ∀ k (h : k < l.length), l[k]'h ≤ 1099511627776) (hk : l.length ≤ 16) (hn : w.heap[bn]? = some (.cells (ints l).toArray 3 (0, 0))) :
    Calls Tryd.prog 58 #[.slice (some ⟨bn, 0, none⟩) l.length l.length] w fun e w' => (∃ v, e = .returned v ∧ w'.ownsRow w.heap.size 9 1 v l.length (strs (numSs l))) ∧ Below w.heap.size w w' := by
  have HL := Lib.hid hl
  have HN := Lib.hid hn
  have hbn := block_lt hn
  clear hl hn
  go_enter Tryd.func58, Tryd.ntmps58
  go_wp2_with fail
  go_loopw [3, 10] (fun o i wr => ∃ k : Nat, k ≤ l.length ∧ i = .int .i64 k ∧ Hid (Below w.heap.size w wr) ∧ Hid (wr.ownsRow w.heap.size 9 1 o k (strs (numSs (l.take k))))) (fun _ i _ => l.length - (intOf i).toNat)
  case atStart => exact ⟨0, by omega, rfl, Below.refl _ _, own_nil _ _ _ _⟩
  case round =>
    obtain ⟨k, hk2, rfl, hB, hO⟩ := hrel
    by_cases hlt : k < l.length
    · have hc := ints_at ((hB.out.block _ hbn).trans HN.out) hlt
      have hx := HL.out k hlt
      go_wp2_with fail
      refine (number_any _ _ (by omega) (by omega)).mono ?_
      rintro e w2 ⟨rfl, hb2⟩
      have HB2 := Lib.hid (bw_call hB.out hb2)
      have HO2 := Lib.hid (own_below hO.out hb2 (Nat.le_refl _))
      clear hb2 hc
      go_wp2_with ((at_builtin; refine wpList_app1 rfl (.tmp 19) (.tmp 21) 45 9 rfl Tryd.underlying45 _ str_info (.string ByteArray.empty) rfl rfl rfl 16 rfl w.heap.size _ k _ rfl HO2.out (.string (numS l[k])) rfl rfl 9 (by omega) (by omega) w HB2.out HB2.out.size (Nat.le_refl _) ?_); intro v3 w3 hO3 hB3)
      go_roundw
      case rel => exact ⟨k + 1, by omega, by go_num, hB3, show _ from by have := hO3.out; rw [← strs_one, ← strs_app, ← numSs_snoc _ _ hlt] at this; exact this⟩
      case measure => simp [intOf]; omega
    · obtain rfl : k = l.length := by omega
      go_wp2_with fail
      go_ret
      refine ⟨⟨_, rfl, ?_⟩, hB.out⟩
      have := hO.out
      rw [List.take_length] at this
      exact this
theorem nwrite_ok (v : Value) (ls : List ByteArray) (w : World) (hv : RdStrs w v ls) (hl : ls.length ≤ 1024) (ht : tot ls ≤ 65536) :
    Calls Tryd.prog 59 #[v] w fun e w' => e = .returned (.tuple #[.string (bstr (encList ls)), .int .i64 0]) ∧ Below w.heap.size w w' := by
  have HV := Lib.hid hv
  clear hv
  go_enter Tryd.func59, Tryd.ntmps59
  go_wp2_with fail
  refine (list_ok v ls _ HV.out hl ht).mono ?_
  rintro e w1 ⟨rfl, hb⟩
  have HB := Lib.hid hb
  clear hb
  go_wp2_with fail
  go_ret2
  exact ⟨rfl, HB.out⟩
end Go.Proofs.YtbeooeihedhabaaDoor
