/- notes.number, notes.lay, notes.write, notes.receipt: what the calls do. -/
import Derived.Test.YtckfdmkjeocadaaDoorRc
namespace Go.Proofs.YtckfdmkjeocadaaDoor
open Go.RowKit
set_option maxHeartbeats 1000000
set_option maxRecDepth 4000
def i64s (l : List Int) : List Value := l.map (Value.int .i64)
theorem i64s_at {w : World} {bn : Nat} {l : List Int} {t : TypeId} {fr : Nat × Nat} (h : w.heap[bn]? = some (.cells (i64s l).toArray t fr)) {k : Nat} (hk : k < l.length) : w.cell? ⟨bn, k, none⟩ = some (.int .i64 (l[k]'hk)) := by
  rw [cell_of_row w bn k _ _ _ h, List.getElem?_toArray]
  simp [i64s, List.getElem?_eq_getElem hk]
theorem all_snoc {α : Type} (p : α → Bool) (l : List α) (k : Nat) (h : k < l.length) : (l.take (k + 1)).all p = ((l.take k).all p && p (l[k]'h)) := by
  rw [List.take_succ_eq_append_getElem h, List.all_append]
  simp
theorem all_bad {α : Type} (p : α → Bool) (l : List α) (k : Nat) (h : k < l.length) (hp : p (l[k]'h) = false) : l.all p = false := by
  rw [List.all_eq_false]
  exact ⟨_, List.getElem_mem h, by rw [hp]; decide⟩
theorem nnum_any (l : List Int) (w : World) (bn : Nat) (hn : w.heap[bn]? = some (.cells (i64s l).toArray 3 (0, 0))) (hl : l.length ≤ 16) :
    Calls Tryd.prog 111 #[.slice (some ⟨bn, 0, none⟩) l.length l.length] w fun e w' => e = .returned (.bool (l.all numOk)) ∧ w' = w := by
  have HN := Lib.hid hn
  clear hn
  go_enter Tryd.func111, Tryd.ntmps111
  go_wp2_with fail
  go_loopw [7] (fun i wr => ∃ k : Nat, k ≤ l.length ∧ i = .int .i64 k ∧ Hid ((l.take k).all numOk = true) ∧ wr = w) (fun i _ => l.length - (intOf i).toNat)
  case atStart => exact ⟨0, by omega, rfl, show _ = _ from rfl, rfl⟩
  case round =>
    obtain ⟨k, hk2, rfl, hA, rfl⟩ := hrel
    by_cases hlt : k < l.length
    · have hc := i64s_at HN.out hlt
      by_cases h0 : l[k] < 0
      · have hd := decide_eq_true h0
        have hf : l.all numOk = false := all_bad _ _ _ hlt (by simp [numOk]; omega)
        have HF := Lib.hid hf
        clear hf
        go_wp2_with fail
        go_ret
        exact ⟨by rw [HF.out]; rfl, rfl⟩
      · have hd := decide_eq_false h0
        by_cases h1 : 1099511627776 < l[k]
        · have hd1 := decide_eq_true h1
          have hf : l.all numOk = false := all_bad _ _ _ hlt (by simp [numOk]; omega)
          have HF := Lib.hid hf
          clear hf
          go_wp2_with fail
          go_ret
          exact ⟨by rw [HF.out]; rfl, rfl⟩
        · have hd1 := decide_eq_false h1
          go_wp2_with fail
          go_roundw
          case rel => exact ⟨k + 1, by omega, by go_num, show _ = _ by rw [all_snoc _ _ _ hlt, hA.out]; simp [numOk]; omega, trivial⟩
          case measure => simp [intOf]; omega
    · obtain rfl : k = l.length := by omega
      have hf : l.all numOk = true := by rw [← hA.out, List.take_length]
      have HF := Lib.hid hf
      clear hf
      go_wp2_with fail
      go_ret
      exact ⟨by rw [HF.out]; rfl, rfl⟩
theorem ints_toNat {l : List Int} (h : l.all numOk = true) : i64s l = ints (l.map Int.toNat) := by
  unfold i64s ints
  rw [List.map_map]
  refine List.map_congr_left fun x hx => ?_
  have := List.all_eq_true.1 h x hx
  simp only [numOk, decide_eq_true_eq] at this
  simp only [Function.comp]
  rw [Int.toNat_of_nonneg this.1]
theorem lay_any (l : List Nat) (w : World) (bn : Nat) (hl : ∀ k (h : k < l.length), l[k]'h ≤ 1099511627776) (hk : l.length ≤ 16) (hn : w.heap[bn]? = some (.cells (ints l).toArray 3 (0, 0))) :
    Calls Tryd.prog 113 #[.slice (some ⟨bn, 0, none⟩) l.length l.length] w fun e w' => (∃ v, e = .returned v ∧ w'.ownsRow w.heap.size 9 1 v l.length (strs (numSs l))) ∧ Below w.heap.size w w' := by
  have HL := Lib.hid hl
  have HN := Lib.hid hn
  have hbn := block_lt hn
  clear hl hn
  go_enter Tryd.func113, Tryd.ntmps113
  go_wp2_with fail
  go_loopw [3, 10] (fun o i wr => ∃ k : Nat, k ≤ l.length ∧ i = .int .i64 k ∧ Hid (Below w.heap.size w wr) ∧ Hid (wr.ownsRow w.heap.size 9 1 o k (strs (numSs (l.take k))))) (fun _ i _ => l.length - (intOf i).toNat)
  case atStart => exact ⟨0, by omega, rfl, Below.refl _ _, own_nil _ _ _ _⟩
  case round =>
    obtain ⟨k, hk2, rfl, hB, hO⟩ := hrel
    by_cases hlt : k < l.length
    · have hc := ints_at ((hB.out.block _ hbn).trans HN.out) hlt
      have hx := HL.out k hlt
      go_wp2_with fail
      refine (number_any _ _ (by omega) (by omega)).mono ?_
      rintro e w2 ⟨rfl, hb2⟩
      have HB2 := Lib.hid (bw_call hB.out hb2)
      have HO2 := Lib.hid (own_below hO.out hb2 (Nat.le_refl _))
      clear hb2 hc
      go_wp2_with ((at_builtin; refine wpList_app1 rfl (.tmp 19) (.tmp 21) 80 9 rfl Tryd.underlying80 _ str_info (.string ByteArray.empty) rfl rfl rfl 16 rfl w.heap.size _ k _ rfl HO2.out (.string (numS l[k])) rfl rfl 9 (by omega) (by omega) w HB2.out HB2.out.size (Nat.le_refl _) ?_); intro v3 w3 hO3 hB3)
      go_roundw
      case rel => exact ⟨k + 1, by omega, by go_num, hB3, show _ from by have := hO3.out; rw [← strs_one, ← strs_app, ← numSs_snoc _ _ hlt] at this; exact this⟩
      case measure => simp [intOf]; omega
    · obtain rfl : k = l.length := by omega
      go_wp2_with fail
      go_ret
      refine ⟨⟨_, rfl, ?_⟩, hB.out⟩
      have := hO.out
      rw [List.take_length] at this
      exact this
theorem nwrite_ok (v : Value) (ls : List ByteArray) (w : World) (hv : RdStrs w v ls) (hl : ls.length ≤ 1024) (ht : tot ls ≤ 65536) :
    Calls Tryd.prog 112 #[v] w fun e w' => e = .returned (.tuple #[.string (bstr (encList ls)), .int .i64 0]) ∧ Below w.heap.size w w' := by
  have HV := Lib.hid hv
  clear hv
  go_enter Tryd.func112, Tryd.ntmps112
  go_wp2_with fail
  refine (list_ok v ls _ HV.out hl ht).mono ?_
  rintro e w1 ⟨rfl, hb⟩
  have HB := Lib.hid hb
  clear hb
  go_wp2_with fail
  go_ret2
  exact ⟨rfl, HB.out⟩
def RcAt (w wr : World) (r : RC) : Prop := Below w.heap.size w wr ∧ wr.heap[w.heap.size]? = some (.cells r.cells.toArray 61 (0, 0))
theorem RcAt.start (w : World) (t : RC) : RcAt w (w.alloc (.cells t.cells.toArray 61)) t := ⟨bw_alloc (Below.refl _ _) _, heap_alloc_new _ _⟩
theorem RcAt.cell {w wr : World} {t : RC} (h : RcAt w wr t) (k : Nat) (v : Value) (hk : t.cells[k]? = some v) : wr.cell? ⟨w.heap.size, k, none⟩ = some v := by
  rw [cell_of_row wr w.heap.size k _ _ _ h.2, List.getElem?_toArray]
  exact hk
theorem RcAt.next {w W : World} {t : RC} (h : RcAt w W t) {W' : World} (hb : Below W.heap.size W W') : RcAt w W' t := ⟨bw_call h.1 hb, (hb.block _ (block_lt h.2)).trans h.2⟩
theorem RcAt.grown {w W W' : World} {t : RC} {row : Option Nat} (h : RcAt w W t) (hg : W.grownBy W' row) (hr : ∀ k, row = some k → w.heap.size < k) : RcAt w W' t :=
  ⟨h.1.grown hg h.1.size (fun k hk => Nat.le_of_lt (hr k hk)), (hg.block _ (block_lt h.2) (fun e => by have := hr _ e.symm; omega)).trans h.2⟩
theorem receipt_any (r : RC) (w : World) (hr : r.wf) :
    Calls Tryd.prog 109 #[.agg r.cells.toArray] w fun e w' => e = .returned (.bool r.good) ∧ Below w.heap.size w w' := by
  have HR := Lib.hid hr
  have hA0 := RcAt.start w r
  have c0 := hA0.cell 0 _ rfl
  have c2 := hA0.cell 2 _ rfl
  have HA0 := Lib.hid hA0
  obtain ⟨g, hg⟩ : ∃ g, g = r.good := ⟨_, rfl⟩
  rw [← hg]
  have HG := Lib.hid hg
  clear hr hA0 hg
  go_enter Tryd.func109, Tryd.ntmps109
  go_wp2_with fail
  have hN1 : ((w.alloc (.cells r.cells.toArray 61)).alloc (.cells (i64s [r.index, r.time]).toArray 3)).heap[w.heap.size + 1]? = some (.cells (i64s [r.index, r.time]).toArray 3 (0, 0)) := heap_alloc2_new w _ _
  refine (nnum_any [r.index, r.time] _ (w.heap.size + 1) hN1 (show 2 ≤ 16 by decide)).mono ?_
  rintro e w1 ⟨rfl, rfl⟩
  have hA1 := HA0.out.next (bw_alloc (Below.refl _ _) (.cells (i64s [r.index, r.time]).toArray 3))
  clear c0 c2 hN1
  have c1 := hA1.cell 1 _ rfl
  have c3 := hA1.cell 3 _ rfl
  have HA1 := Lib.hid hA1
  clear hA1
  generalize (w.alloc (.cells r.cells.toArray 61)).alloc (.cells (i64s [r.index, r.time]).toArray 3) = W1 at *
  rw [show [r.index, r.time].all numOk = (numOk r.index && numOk r.time) by simp]
  cases hno : (numOk r.index && numOk r.time)
  · have hgf : g = false := by rw [HG.out, RC.good, hno]; rfl
    subst hgf
    clear hno
    go_wp2_with fail
    go_ret
    exact ⟨rfl, HA1.out.1⟩
  · by_cases h1 : r.kind = 1
    · have hd1 : (r.kind == 1) = true := by simpa using h1
      by_cases h3 : r.body.size ≤ 656
      · have hd3 : decide ((r.body.size : Int) ≤ 656) = true := decide_eq_true (by omega)
        have hgf : g = true := by rw [HG.out, RC.good, hno, decide_eq_true h1, decide_eq_true h3]; rfl
        subst hgf
        clear hno h1
        go_wp2_with fail
        go_ret
        exact ⟨rfl, HA1.out.1⟩
      · have hd3 : decide ((r.body.size : Int) ≤ 656) = false := decide_eq_false (by omega)
        have hgf : g = false := by rw [HG.out, RC.good, hno, decide_eq_false h3, Bool.and_false]
        subst hgf
        clear hno h1
        go_wp2_with fail
        go_ret
        exact ⟨rfl, HA1.out.1⟩
    · have hd1 : (r.kind == 1) = false := by simpa using h1
      by_cases h2 : r.kind = 2
      · have hd2 : (r.kind == 2) = true := by simpa using h2
        by_cases h3 : r.body.size ≤ 656
        · have hd3 : decide ((r.body.size : Int) ≤ 656) = true := decide_eq_true (by omega)
          have hgf : g = true := by rw [HG.out, RC.good, hno, decide_eq_true h2, decide_eq_true h3]; simp
          subst hgf
          clear hno h1 h2
          go_wp2_with fail
          go_ret
          exact ⟨rfl, HA1.out.1⟩
        · have hd3 : decide ((r.body.size : Int) ≤ 656) = false := decide_eq_false (by omega)
          have hgf : g = false := by rw [HG.out, RC.good, hno, decide_eq_false h3, Bool.and_false]
          subst hgf
          clear hno h1 h2
          go_wp2_with fail
          go_ret
          exact ⟨rfl, HA1.out.1⟩
      · have hd2 : (r.kind == 2) = false := by simpa using h2
        have hgf : g = false := by rw [HG.out, RC.good, decide_eq_false h1, decide_eq_false h2]; simp
        subst hgf
        clear hno h1 h2
        go_wp2_with fail
        go_ret
        exact ⟨rfl, HA1.out.1⟩
end Go.Proofs.YtckfdmkjeocadaaDoor
