/- Items: notes.item, notes.WriteItem, cavalcaderef05.Item: what the calls do. notes.WriteItem: what the call does. Items and messages compared. -/
import Derived.Test.YtbeooeihedhabaaDoorBxWrite
import Derived.Test.YtbeooeihedhabaaDoorRNum5
namespace Go.Proofs.YtbeooeihedhabaaDoor
open Go.RowKit
set_option maxHeartbeats 2000000
set_option maxRecDepth 4000
/-- an item -/
structure IT where
  kind : Int
  by_ : Int
  n : Int
  text : ByteArray
def IT.cells (x : IT) : List Value := [.int .i64 x.kind, .int .i64 x.by_, .int .i64 x.n, .string x.text]
/-- may it be? -/
def IT.ok (x : IT) : Bool := numOk x.by_ && numOk x.n && decide (x.by_ ≤ 64) && decide (x.text.size ≤ 65472) && (if x.kind = 2 then decide (x.by_ = 0 ∧ x.text.size = 0) else decide ((x.kind = 1 ∨ x.kind = 3) ∧ x.n = 0))
theorem IT.ok_is {x : IT} (h : x.ok = true) : (0 ≤ x.by_ ∧ x.by_ ≤ 64) ∧ (0 ≤ x.n ∧ x.n ≤ 1099511627776) ∧ x.text.size ≤ 65472 ∧ (x.kind = 1 ∨ x.kind = 2 ∨ x.kind = 3) := by
  simp only [IT.ok, numOk, Bool.and_eq_true, decide_eq_true_eq] at h
  obtain ⟨⟨⟨⟨h1, h2⟩, h3⟩, h4⟩, h5⟩ := h
  refine ⟨⟨h1.1, h3⟩, h2, h4, ?_⟩
  split at h5
  · rename_i hk; exact .inr (.inl hk)
  · simp only [decide_eq_true_eq] at h5
    omega
def IT.nums (x : IT) : List Nat := [x.kind.toNat, x.by_.toNat, x.n.toNat]
def IT.parts (x : IT) : List ByteArray := numSs x.nums ++ [x.text]
/-- its bytes, the error -/
def IT.wr (x : IT) : ByteArray × Int := if x.ok = true then (bstr (encList x.parts), 0) else (⟨#[]⟩, 2)
theorem IT.ints_nums {x : IT} (h : x.ok = true) : ints x.nums = [.int .i64 x.kind, .int .i64 x.by_, .int .i64 x.n] := by
  have h2 := IT.ok_is h
  simp only [ints, IT.nums, List.map_cons, List.map_nil, Int.toNat_of_nonneg (show 0 ≤ x.kind by omega), Int.toNat_of_nonneg (show 0 ≤ x.by_ by omega), Int.toNat_of_nonneg (show 0 ≤ x.n by omega)]
theorem IT.nums_le {x : IT} (h : x.ok = true) : ∀ (k : Nat) (hk : k < x.nums.length), x.nums[k]'hk ≤ 1099511627776 := by
  have h2 := IT.ok_is h
  intro k hk
  have hx := List.getElem_mem hk
  revert hx
  generalize x.nums[k]'hk = y
  intro hx
  simp only [IT.nums, List.mem_cons, List.not_mem_nil, or_false] at hx
  omega
theorem IT.parts_tot {x : IT} (h : x.ok = true) : tot x.parts ≤ 65536 := by
  have h2 := IT.ok_is h
  have n1 := numS_size (n := x.kind.toNat) (by omega)
  have n2 := numS_size (n := x.by_.toNat) (by omega)
  have n3 := numS_size (n := x.n.toNat) (by omega)
  have : tot x.parts = (numS x.kind.toNat).size + ((numS x.by_.toNat).size + ((numS x.n.toNat).size + (x.text.size + 0))) := by simp [tot, IT.parts, numSs, IT.nums]
  omega
theorem it_size (s : ByteArray) : s.toList.isEmpty = decide (s.size = 0) := empty_is s
theorem nitem_any (x : IT) (w : World) (hs : x.text.size ≤ 140737488355328) :
    Calls Tryd.prog 75 #[.agg x.cells.toArray] w fun e w' => e = .returned (.bool x.ok) ∧ Below w.heap.size w w' := by
  obtain ⟨k, b, n, t⟩ := x
  dsimp only at hs
  have HB0 : Hid (Below w.heap.size w ((w.alloc (.cells #[.int .i64 k, .int .i64 b, .int .i64 n, .string t] 59)).alloc (.cells #[.int .i64 b, .int .i64 n] 3))) := show Below _ _ _ from bw_alloc (bw_alloc (Below.refl _ _) _) _
  have HC := nnum_any [b, n] ((w.alloc (.cells #[.int .i64 k, .int .i64 b, .int .i64 n, .string t] 59)).alloc (.cells #[.int .i64 b, .int .i64 n] 3)) (w.heap.size + 1) (heap_alloc2_new w (.cells #[.int .i64 k, .int .i64 b, .int .i64 n, .string t] 59) _) (show 2 ≤ 16 by decide)
  have HZ : Hid (((w.alloc (.cells #[.int .i64 k, .int .i64 b, .int .i64 n, .string t] 59)).alloc (.cells #[.int .i64 b, .int .i64 n] 3)).heap[w.heap.size]? = some (.cells #[.int .i64 k, .int .i64 b, .int .i64 n, .string t] 59 (0, 0))) := show _ = _ from (Below.heap_alloc _ _ _ (by simp)).trans (heap_alloc_new w _)
  have HO : Hid ((IT.mk k b n t).ok = (([b, n].all numOk && decide (b ≤ 64) && decide (t.size ≤ 65472)) && (if k = 2 then decide (b = 0 ∧ t.size = 0) else decide ((k = 1 ∨ k = 3) ∧ n = 0)))) := show _ = _ from by
    unfold IT.ok
    simp only [List.all_cons, List.all_nil, Bool.and_true]
  show Calls Tryd.prog 75 #[.agg #[.int .i64 k, .int .i64 b, .int .i64 n, .string t]] w _
  cases hg : [b, n].all numOk with
  | false =>
    have HR : Hid ((IT.mk k b n t).ok = false) := show _ = _ from by rw [HO.out, hg]; rfl
    rw [hg] at HC
    have HC := Lib.hid HC
    clear hg
    go_enter Tryd.func75, Tryd.ntmps75
    go_wp2_with fail
    refine HC.out.mono ?_
    rintro e w2 ⟨rfl, rfl⟩
    have hcz := HZ.out
    generalize (w.alloc (.cells #[.int .i64 k, .int .i64 b, .int .i64 n, .string t] 59)).alloc (.cells #[.int .i64 b, .int .i64 n] 3) = w2 at *
    have c0 : w2.cell? ⟨w.heap.size, 0, none⟩ = some (.int .i64 k) := by rw [cell_of_row _ _ _ _ _ _ hcz]; rfl
    have c1 : w2.cell? ⟨w.heap.size, 1, none⟩ = some (.int .i64 b) := by rw [cell_of_row _ _ _ _ _ _ hcz]; rfl
    have c2 : w2.cell? ⟨w.heap.size, 2, none⟩ = some (.int .i64 n) := by rw [cell_of_row _ _ _ _ _ _ hcz]; rfl
    have c3 : w2.cell? ⟨w.heap.size, 3, none⟩ = some (.string t) := by rw [cell_of_row _ _ _ _ _ _ hcz]; rfl
    clear hcz
    go_wp2_with fail
    go_ret
    exact ⟨by rw [HR.out]; rfl, HB0.out⟩
  | true =>
    rw [hg] at HC
    have HC := Lib.hid HC
    by_cases hb : b ≤ 64
    · have d1 : decide (64 < b) = false := decide_eq_false (by omega)
      by_cases ht : t.size ≤ 65472
      · have d2 : decide ((65472 : Int) < t.size) = false := decide_eq_false (by omega)
        have HO2 : Hid ((IT.mk k b n t).ok = if k = 2 then decide (b = 0 ∧ t.size = 0) else decide ((k = 1 ∨ k = 3) ∧ n = 0)) := show _ = _ from by rw [HO.out, hg, decide_eq_true hb, decide_eq_true ht]; rfl
        clear hg
        by_cases h1 : k = 1
        · have q1 : (k == 1) = true := beq_iff_eq.2 h1
          have HR : Hid ((IT.mk k b n t).ok = (n == 0)) := show _ = _ from by rw [HO2.out, if_neg (by omega)]; exact Bool.eq_iff_iff.2 (by simp [h1])
          clear h1
          go_enter Tryd.func75, Tryd.ntmps75
          go_wp2_with fail
          refine HC.out.mono ?_
          rintro e w2 ⟨rfl, rfl⟩
          have hcz := HZ.out
          generalize (w.alloc (.cells #[.int .i64 k, .int .i64 b, .int .i64 n, .string t] 59)).alloc (.cells #[.int .i64 b, .int .i64 n] 3) = w2 at *
          have c0 : w2.cell? ⟨w.heap.size, 0, none⟩ = some (.int .i64 k) := by rw [cell_of_row _ _ _ _ _ _ hcz]; rfl
          have c1 : w2.cell? ⟨w.heap.size, 1, none⟩ = some (.int .i64 b) := by rw [cell_of_row _ _ _ _ _ _ hcz]; rfl
          have c2 : w2.cell? ⟨w.heap.size, 2, none⟩ = some (.int .i64 n) := by rw [cell_of_row _ _ _ _ _ _ hcz]; rfl
          have c3 : w2.cell? ⟨w.heap.size, 3, none⟩ = some (.string t) := by rw [cell_of_row _ _ _ _ _ _ hcz]; rfl
          clear hcz
          go_wp2_with fail
          go_ret
          exact ⟨by rw [HR.out]; rfl, HB0.out⟩
        · have q1 : (k == 1) = false := beq_eq_false_iff_ne.2 h1
          by_cases h3 : k = 3
          · have q3 : (k == 3) = true := beq_iff_eq.2 h3
            have HR : Hid ((IT.mk k b n t).ok = (n == 0)) := show _ = _ from by rw [HO2.out, if_neg (by omega)]; exact Bool.eq_iff_iff.2 (by simp [h3])
            clear h3
            go_enter Tryd.func75, Tryd.ntmps75
            go_wp2_with fail
            refine HC.out.mono ?_
            rintro e w2 ⟨rfl, rfl⟩
            have hcz := HZ.out
            generalize (w.alloc (.cells #[.int .i64 k, .int .i64 b, .int .i64 n, .string t] 59)).alloc (.cells #[.int .i64 b, .int .i64 n] 3) = w2 at *
            have c0 : w2.cell? ⟨w.heap.size, 0, none⟩ = some (.int .i64 k) := by rw [cell_of_row _ _ _ _ _ _ hcz]; rfl
            have c1 : w2.cell? ⟨w.heap.size, 1, none⟩ = some (.int .i64 b) := by rw [cell_of_row _ _ _ _ _ _ hcz]; rfl
            have c2 : w2.cell? ⟨w.heap.size, 2, none⟩ = some (.int .i64 n) := by rw [cell_of_row _ _ _ _ _ _ hcz]; rfl
            have c3 : w2.cell? ⟨w.heap.size, 3, none⟩ = some (.string t) := by rw [cell_of_row _ _ _ _ _ _ hcz]; rfl
            clear hcz
            go_wp2_with fail
            go_ret
            exact ⟨by rw [HR.out]; rfl, HB0.out⟩
          · have q3 : (k == 3) = false := beq_eq_false_iff_ne.2 h3
            by_cases h2 : k = 2
            · have q2 : (k == 2) = true := beq_iff_eq.2 h2
              by_cases hb0 : b = 0
              · have qb : (b == 0) = true := beq_iff_eq.2 hb0
                have HR : Hid ((IT.mk k b n t).ok = t.toList.isEmpty) := show _ = _ from by rw [HO2.out, if_pos h2, it_size]; exact decide_eq_decide.2 ⟨fun h => h.2, fun h => ⟨hb0, h⟩⟩
                clear hb0 h2
                go_enter Tryd.func75, Tryd.ntmps75
                go_wp2_with fail
                refine HC.out.mono ?_
                rintro e w2 ⟨rfl, rfl⟩
                have hcz := HZ.out
                generalize (w.alloc (.cells #[.int .i64 k, .int .i64 b, .int .i64 n, .string t] 59)).alloc (.cells #[.int .i64 b, .int .i64 n] 3) = w2 at *
                have c0 : w2.cell? ⟨w.heap.size, 0, none⟩ = some (.int .i64 k) := by rw [cell_of_row _ _ _ _ _ _ hcz]; rfl
                have c1 : w2.cell? ⟨w.heap.size, 1, none⟩ = some (.int .i64 b) := by rw [cell_of_row _ _ _ _ _ _ hcz]; rfl
                have c2 : w2.cell? ⟨w.heap.size, 2, none⟩ = some (.int .i64 n) := by rw [cell_of_row _ _ _ _ _ _ hcz]; rfl
                have c3 : w2.cell? ⟨w.heap.size, 3, none⟩ = some (.string t) := by rw [cell_of_row _ _ _ _ _ _ hcz]; rfl
                clear hcz
                go_wp2_with fail
                go_ret
                exact ⟨by rw [HR.out]; rfl, HB0.out⟩
              · have qb : (b == 0) = false := beq_eq_false_iff_ne.2 hb0
                have HR : Hid ((IT.mk k b n t).ok = false) := show _ = _ from by rw [HO2.out, if_pos h2]; exact decide_eq_false (fun h => hb0 h.1)
                clear h2
                go_enter Tryd.func75, Tryd.ntmps75
                go_wp2_with fail
                refine HC.out.mono ?_
                rintro e w2 ⟨rfl, rfl⟩
                have hcz := HZ.out
                generalize (w.alloc (.cells #[.int .i64 k, .int .i64 b, .int .i64 n, .string t] 59)).alloc (.cells #[.int .i64 b, .int .i64 n] 3) = w2 at *
                have c0 : w2.cell? ⟨w.heap.size, 0, none⟩ = some (.int .i64 k) := by rw [cell_of_row _ _ _ _ _ _ hcz]; rfl
                have c1 : w2.cell? ⟨w.heap.size, 1, none⟩ = some (.int .i64 b) := by rw [cell_of_row _ _ _ _ _ _ hcz]; rfl
                have c2 : w2.cell? ⟨w.heap.size, 2, none⟩ = some (.int .i64 n) := by rw [cell_of_row _ _ _ _ _ _ hcz]; rfl
                have c3 : w2.cell? ⟨w.heap.size, 3, none⟩ = some (.string t) := by rw [cell_of_row _ _ _ _ _ _ hcz]; rfl
                clear hcz
                go_wp2_with fail
                go_ret
                exact ⟨by rw [HR.out]; rfl, HB0.out⟩
            · have q2 : (k == 2) = false := beq_eq_false_iff_ne.2 h2
              have HR : Hid ((IT.mk k b n t).ok = false) := show _ = _ from by rw [HO2.out, if_neg h2]; exact decide_eq_false (fun h => by rcases h.1 with h | h; exact h1 h; exact h3 h)
              clear h1 h2 h3
              go_enter Tryd.func75, Tryd.ntmps75
              go_wp2_with fail
              refine HC.out.mono ?_
              rintro e w2 ⟨rfl, rfl⟩
              have hcz := HZ.out
              generalize (w.alloc (.cells #[.int .i64 k, .int .i64 b, .int .i64 n, .string t] 59)).alloc (.cells #[.int .i64 b, .int .i64 n] 3) = w2 at *
              have c0 : w2.cell? ⟨w.heap.size, 0, none⟩ = some (.int .i64 k) := by rw [cell_of_row _ _ _ _ _ _ hcz]; rfl
              have c1 : w2.cell? ⟨w.heap.size, 1, none⟩ = some (.int .i64 b) := by rw [cell_of_row _ _ _ _ _ _ hcz]; rfl
              have c2 : w2.cell? ⟨w.heap.size, 2, none⟩ = some (.int .i64 n) := by rw [cell_of_row _ _ _ _ _ _ hcz]; rfl
              have c3 : w2.cell? ⟨w.heap.size, 3, none⟩ = some (.string t) := by rw [cell_of_row _ _ _ _ _ _ hcz]; rfl
              clear hcz
              go_wp2_with fail
              go_ret
              exact ⟨by rw [HR.out]; rfl, HB0.out⟩
      · have d2 : decide ((65472 : Int) < t.size) = true := decide_eq_true (by omega)
        have HR : Hid ((IT.mk k b n t).ok = false) := show _ = _ from by rw [HO.out, decide_eq_false ht]; simp
        clear hg
        go_enter Tryd.func75, Tryd.ntmps75
        go_wp2_with fail
        refine HC.out.mono ?_
        rintro e w2 ⟨rfl, rfl⟩
        have hcz := HZ.out
        generalize (w.alloc (.cells #[.int .i64 k, .int .i64 b, .int .i64 n, .string t] 59)).alloc (.cells #[.int .i64 b, .int .i64 n] 3) = w2 at *
        have c0 : w2.cell? ⟨w.heap.size, 0, none⟩ = some (.int .i64 k) := by rw [cell_of_row _ _ _ _ _ _ hcz]; rfl
        have c1 : w2.cell? ⟨w.heap.size, 1, none⟩ = some (.int .i64 b) := by rw [cell_of_row _ _ _ _ _ _ hcz]; rfl
        have c2 : w2.cell? ⟨w.heap.size, 2, none⟩ = some (.int .i64 n) := by rw [cell_of_row _ _ _ _ _ _ hcz]; rfl
        have c3 : w2.cell? ⟨w.heap.size, 3, none⟩ = some (.string t) := by rw [cell_of_row _ _ _ _ _ _ hcz]; rfl
        clear hcz
        go_wp2_with fail
        go_ret
        exact ⟨by rw [HR.out]; rfl, HB0.out⟩
    · have d1 : decide (64 < b) = true := decide_eq_true (by omega)
      have HR : Hid ((IT.mk k b n t).ok = false) := show _ = _ from by rw [HO.out, decide_eq_false hb]; simp
      clear hg
      go_enter Tryd.func75, Tryd.ntmps75
      go_wp2_with fail
      refine HC.out.mono ?_
      rintro e w2 ⟨rfl, rfl⟩
      have hcz := HZ.out
      generalize (w.alloc (.cells #[.int .i64 k, .int .i64 b, .int .i64 n, .string t] 59)).alloc (.cells #[.int .i64 b, .int .i64 n] 3) = w2 at *
      have c0 : w2.cell? ⟨w.heap.size, 0, none⟩ = some (.int .i64 k) := by rw [cell_of_row _ _ _ _ _ _ hcz]; rfl
      have c1 : w2.cell? ⟨w.heap.size, 1, none⟩ = some (.int .i64 b) := by rw [cell_of_row _ _ _ _ _ _ hcz]; rfl
      have c2 : w2.cell? ⟨w.heap.size, 2, none⟩ = some (.int .i64 n) := by rw [cell_of_row _ _ _ _ _ _ hcz]; rfl
      have c3 : w2.cell? ⟨w.heap.size, 3, none⟩ = some (.string t) := by rw [cell_of_row _ _ _ _ _ _ hcz]; rfl
      clear hcz
      go_wp2_with fail
      go_ret
      exact ⟨by rw [HR.out]; rfl, HB0.out⟩
/-- cavalcaderef05.within, any bound -/
theorem rwithinm_any (n m : Int) (w : World) : Calls Tryd.prog 44 #[.int .i64 n, .int .i64 m] w fun e w' => e = .returned (.bool (decide (0 ≤ n ∧ n ≤ m))) ∧ w' = w := by
  obtain ⟨g, hg⟩ : ∃ g, g = decide (0 ≤ n ∧ n ≤ m) := ⟨_, rfl⟩
  rw [← hg]
  have HG := Lib.hid hg
  clear hg
  by_cases h0 : 0 ≤ n
  · have hd0 : decide ((0 : Int) ≤ n) = true := decide_eq_true h0
    by_cases h1 : n ≤ m
    · have hd1 : decide (n ≤ m) = true := decide_eq_true h1
      obtain rfl : g = true := by rw [HG.out]; exact decide_eq_true ⟨h0, h1⟩
      clear h0 h1 HG
      go_enter Tryd.func44, Tryd.ntmps44
      go_wp2_with fail
      go_ret
      exact ⟨rfl, rfl⟩
    · have hd1 : decide (n ≤ m) = false := decide_eq_false h1
      obtain rfl : g = false := by rw [HG.out]; exact decide_eq_false (fun h => h1 h.2)
      clear h0 h1 HG
      go_enter Tryd.func44, Tryd.ntmps44
      go_wp2_with fail
      go_ret
      exact ⟨rfl, rfl⟩
  · have hd0 : decide ((0 : Int) ≤ n) = false := decide_eq_false h0
    obtain rfl : g = false := by rw [HG.out]; exact decide_eq_false (fun h => h0 h.1)
    clear h0 HG
    go_enter Tryd.func44, Tryd.ntmps44
    go_wp2_with fail
    go_ret
    exact ⟨rfl, rfl⟩
theorem ritem_any (x : IT) (w : World) (hs : x.text.size ≤ 140737488355328) :
    Calls Tryd.prog 43 #[.agg x.cells.toArray] w fun e w' => e = .returned (.bool x.ok) ∧ Below w.heap.size w w' := by
  obtain ⟨k, b, n, t⟩ := x
  dsimp only at hs
  have HB0 : Hid (Below w.heap.size w (w.alloc (.cells #[.int .i64 k, .int .i64 b, .int .i64 n, .string t] 59))) := show Below _ _ _ from bw_alloc (Below.refl _ _) _
  have HC1 := rwithinm_any b 64 (w.alloc (.cells #[.int .i64 k, .int .i64 b, .int .i64 n, .string t] 59))
  have HC2 := rwithin5_any n (w.alloc (.cells #[.int .i64 k, .int .i64 b, .int .i64 n, .string t] 59))
  have HO : Hid ((IT.mk k b n t).ok = (decide (0 ≤ b ∧ b ≤ 64) && numOk n && decide (t.size ≤ 65472) && (if k = 2 then decide (b = 0 ∧ t.size = 0) else decide ((k = 1 ∨ k = 3) ∧ n = 0)))) := show _ = _ from by
    have : decide (0 ≤ b ∧ b ≤ 64) = (numOk b && decide (b ≤ 64)) := by
      unfold numOk
      rw [← Bool.decide_and]
      exact decide_eq_decide.2 ⟨fun h => ⟨⟨h.1, by omega⟩, h.2⟩, fun h => ⟨h.1.1, h.2⟩⟩
    unfold IT.ok
    rw [this]
    dsimp only
    cases numOk b <;> cases numOk n <;> cases decide (b ≤ 64) <;> rfl
  show Calls Tryd.prog 43 #[.agg #[.int .i64 k, .int .i64 b, .int .i64 n, .string t]] w _
  cases hg1 : decide (0 ≤ b ∧ b ≤ 64) with
  | false =>
    have HR : Hid ((IT.mk k b n t).ok = false) := show _ = _ from by rw [HO.out, hg1]; rfl
    rw [hg1] at HC1
    have HC1 := Lib.hid HC1
    clear hg1 HC2
    go_enter Tryd.func43, Tryd.ntmps43
    go_wp2_with fail
    refine HC1.out.mono ?_
    rintro e w2 ⟨rfl, rfl⟩
    go_wp2_with fail
    go_ret
    exact ⟨by rw [HR.out]; rfl, HB0.out⟩
  | true =>
    rw [hg1] at HC1
    have HC1 := Lib.hid HC1
    cases hg2 : numOk n with
    | false =>
      have HR : Hid ((IT.mk k b n t).ok = false) := show _ = _ from by rw [HO.out, hg1, hg2]; rfl
      rw [hg2] at HC2
      have HC2 := Lib.hid HC2
      clear hg1 hg2
      go_enter Tryd.func43, Tryd.ntmps43
      go_wp2_with fail
      refine HC1.out.mono ?_
      rintro e w2 ⟨rfl, rfl⟩
      go_wp2_with fail
      refine HC2.out.mono ?_
      rintro e w2 ⟨rfl, rfl⟩
      go_wp2_with fail
      go_ret
      exact ⟨by rw [HR.out]; rfl, HB0.out⟩
    | true =>
      rw [hg2] at HC2
      have HC2 := Lib.hid HC2
      by_cases ht : t.size ≤ 65472
      · have d2 : decide ((65472 : Int) < t.size) = false := decide_eq_false (by omega)
        have HO2 : Hid ((IT.mk k b n t).ok = if k = 2 then decide (b = 0 ∧ t.size = 0) else decide ((k = 1 ∨ k = 3) ∧ n = 0)) := show _ = _ from by rw [HO.out, hg1, hg2, decide_eq_true ht]; rfl
        clear hg1 hg2
        by_cases h2 : k = 2
        · have q2 : (k == 2) = true := beq_iff_eq.2 h2
          by_cases hb0 : b = 0
          · have qb : (b == 0) = true := beq_iff_eq.2 hb0
            have HR : Hid ((IT.mk k b n t).ok = t.toList.isEmpty) := show _ = _ from by rw [HO2.out, if_pos h2, it_size]; exact decide_eq_decide.2 ⟨fun h => h.2, fun h => ⟨hb0, h⟩⟩
            clear hb0 h2
            go_enter Tryd.func43, Tryd.ntmps43
            go_wp2_with fail
            refine HC1.out.mono ?_
            rintro e w2 ⟨rfl, rfl⟩
            go_wp2_with fail
            refine HC2.out.mono ?_
            rintro e w2 ⟨rfl, rfl⟩
            go_wp2_with fail
            go_ret
            exact ⟨by rw [HR.out]; rfl, HB0.out⟩
          · have qb : (b == 0) = false := beq_eq_false_iff_ne.2 hb0
            have HR : Hid ((IT.mk k b n t).ok = false) := show _ = _ from by rw [HO2.out, if_pos h2]; exact decide_eq_false (fun h => hb0 h.1)
            clear h2
            go_enter Tryd.func43, Tryd.ntmps43
            go_wp2_with fail
            refine HC1.out.mono ?_
            rintro e w2 ⟨rfl, rfl⟩
            go_wp2_with fail
            refine HC2.out.mono ?_
            rintro e w2 ⟨rfl, rfl⟩
            go_wp2_with fail
            go_ret
            exact ⟨by rw [HR.out]; rfl, HB0.out⟩
        · have q2 : (k == 2) = false := beq_eq_false_iff_ne.2 h2
          by_cases h1 : k = 1
          · have q1 : (k == 1) = true := beq_iff_eq.2 h1
            have HR : Hid ((IT.mk k b n t).ok = (n == 0)) := show _ = _ from by rw [HO2.out, if_neg (by omega)]; exact Bool.eq_iff_iff.2 (by simp [h1])
            clear h1
            go_enter Tryd.func43, Tryd.ntmps43
            go_wp2_with fail
            refine HC1.out.mono ?_
            rintro e w2 ⟨rfl, rfl⟩
            go_wp2_with fail
            refine HC2.out.mono ?_
            rintro e w2 ⟨rfl, rfl⟩
            go_wp2_with fail
            go_ret
            exact ⟨by rw [HR.out]; rfl, HB0.out⟩
          · have q1 : (k == 1) = false := beq_eq_false_iff_ne.2 h1
            by_cases h3 : k = 3
            · have q3 : (k == 3) = true := beq_iff_eq.2 h3
              have HR : Hid ((IT.mk k b n t).ok = (n == 0)) := show _ = _ from by rw [HO2.out, if_neg (by omega)]; exact Bool.eq_iff_iff.2 (by simp [h3])
              clear h3
              go_enter Tryd.func43, Tryd.ntmps43
              go_wp2_with fail
              refine HC1.out.mono ?_
              rintro e w2 ⟨rfl, rfl⟩
              go_wp2_with fail
              refine HC2.out.mono ?_
              rintro e w2 ⟨rfl, rfl⟩
              go_wp2_with fail
              go_ret
              exact ⟨by rw [HR.out]; rfl, HB0.out⟩
            · have q3 : (k == 3) = false := beq_eq_false_iff_ne.2 h3
              have HR : Hid ((IT.mk k b n t).ok = false) := show _ = _ from by rw [HO2.out, if_neg h2]; exact decide_eq_false (fun h => by rcases h.1 with h | h; exact h1 h; exact h3 h)
              clear h1 h2 h3
              go_enter Tryd.func43, Tryd.ntmps43
              go_wp2_with fail
              refine HC1.out.mono ?_
              rintro e w2 ⟨rfl, rfl⟩
              go_wp2_with fail
              refine HC2.out.mono ?_
              rintro e w2 ⟨rfl, rfl⟩
              go_wp2_with fail
              go_ret
              exact ⟨by rw [HR.out]; rfl, HB0.out⟩
      · have d2 : decide ((65472 : Int) < t.size) = true := decide_eq_true (by omega)
        have HR : Hid ((IT.mk k b n t).ok = false) := show _ = _ from by rw [HO.out, decide_eq_false ht]; simp
        clear hg1 hg2
        go_enter Tryd.func43, Tryd.ntmps43
        go_wp2_with fail
        refine HC1.out.mono ?_
        rintro e w2 ⟨rfl, rfl⟩
        go_wp2_with fail
        refine HC2.out.mono ?_
        rintro e w2 ⟨rfl, rfl⟩
        go_wp2_with fail
        go_ret
        exact ⟨by rw [HR.out]; rfl, HB0.out⟩
open Go.RowKit
set_option maxHeartbeats 2000000
set_option maxRecDepth 4000
structure ItAt (w W : World) (x : IT) : Prop where
  b : Below w.heap.size w W
  row : W.heap[w.heap.size]? = some (.cells x.cells.toArray 59 (0, 0))
theorem ItAt.next {w W W' : World} {x : IT} (h : ItAt w W x) (hb : Below W.heap.size W W') : ItAt w W' x := ⟨h.b.trans (hb.mono h.b.size), (hb.block _ (block_lt h.row)).trans h.row⟩
theorem ItAt.grown {w W W' : World} {x : IT} {row : Option Nat} (h : ItAt w W x) (hg : W.grownBy W' row) (hr : ∀ k, row = some k → w.heap.size < k) : ItAt w W' x :=
  ⟨h.b.grown hg (block_lt h.row |> Nat.le_of_lt) (fun k hk => Nat.le_of_lt (hr k hk)), (hg.block _ (block_lt h.row) (fun e => by have := hr _ e.symm; omega)).trans h.row⟩
theorem ItAt.cell {w W : World} {x : IT} (h : ItAt w W x) (j : Nat) (v : Value) (hv : x.cells[j]? = some v) : W.cell? ⟨w.heap.size, j, none⟩ = some v := by
  rw [cell_of_row _ _ _ _ _ _ h.row, List.getElem?_toArray]
  exact hv
theorem it_rowat {w : World} {b : Nat} {cs : List Value} {t : TypeId} {fr : Nat × Nat} (h : w.heap[b]? = some (.cells cs.toArray t fr)) : ∀ j u, cs[j]? = some u → w.cell? ((⟨b, 0, none⟩ : Addr).add j) = some u := fun j u hj => by
  have hadd : (⟨b, 0, none⟩ : Addr).add j = ⟨b, j, none⟩ := by unfold Addr.add; split <;> simp_all
  rw [hadd, cell_of_row w b j _ _ _ h, List.getElem?_toArray]
  exact hj
theorem it_keep {W W' : World} (hb : Below W.heap.size W W') {b : Nat} {o : Obj} (h : W.heap[b]? = some o) : W'.heap[b]? = some o := (hb.block b (block_lt h)).trans h
theorem it_above {w : World} {base n size m B : Nat} {e : TypeId} {v : Value} {xs : List Value} (h : w.ownsRow base e size v n xs) (h1 : m < B) (h2 : B ≤ base) : ∀ k, v.ownBlock = some k → m < k := fun k hk => by
  have := own_blk h k hk
  omega
theorem it_parts {w : World} {x : IT} {base : Nat} {v : Value} (h : w.ownsRow base 9 1 v (3 + 1) (strs (numSs x.nums) ++ strs [x.text])) (h0 : 0 < w.heap.size) : RdStrs w v x.parts :=
  RdStrs.of_own (by rw [← strs_app] at h; exact h) (show 4 ≤ _ by decide) h0
theorem wrOk_none {x : IT} (h : x.ok = false) : x.wr = (⟨#[]⟩, 2) := by unfold IT.wr; rw [h]; rfl
theorem wrOk_some {x : IT} (h : x.ok = true) : x.wr = (bstr (encList x.parts), 0) := by unfold IT.wr; rw [h]; rfl
theorem nwriteItem_any (x : IT) (w : World) (hs : x.text.size ≤ 140737488355328) :
    Calls Tryd.prog 42 #[.agg x.cells.toArray] w fun e w' => e = .returned (.tuple #[.string x.wr.1, .int .i64 x.wr.2]) ∧ Below w.heap.size w w' := by
  obtain ⟨k, b, n, t⟩ := x
  have HC := nitem_any (IT.mk k b n t) (w.alloc (.cells #[.int .i64 k, .int .i64 b, .int .i64 n, .string t] 59)) hs
  have hT0 : ItAt w (w.alloc (.cells #[.int .i64 k, .int .i64 b, .int .i64 n, .string t] 59)) (IT.mk k b n t) := ⟨bw_alloc (Below.refl _ _) _, heap_alloc_new w _⟩
  have HT0 := Lib.hid hT0
  have c0 := hT0.cell 0 _ rfl
  have c1 := hT0.cell 1 _ rfl
  have c2 := hT0.cell 2 _ rfl
  have c3 := hT0.cell 3 _ rfl
  dsimp only at c0 c1 c2 c3
  show Calls Tryd.prog 42 #[.agg #[.int .i64 k, .int .i64 b, .int .i64 n, .string t]] w _
  cases ho : (IT.mk k b n t).ok with
  | false =>
    have HR := Lib.hid (wrOk_none ho)
    rw [ho] at HC
    have HC := Lib.hid HC
    clear ho hs hT0
    go_enter Tryd.func42, Tryd.ntmps42
    go_wp2_with fail
    refine HC.out.mono ?_
    rintro e w2 ⟨rfl, hb⟩
    have HB2 := Lib.hid (HT0.out.next hb).b
    clear hb
    go_wp2_with fail
    go_ret2
    rw [HR.out]
    exact ⟨rfl, HB2.out⟩
  | true =>
    have HR := Lib.hid (wrOk_some ho)
    have HIN := Lib.hid (IT.ints_nums ho)
    have HNL := Lib.hid (IT.nums_le ho)
    have HPT := Lib.hid (IT.parts_tot ho)
    have KEEP : Hid (∀ W', ItAt w W' (IT.mk k b n t) → (ItAt w W' (IT.mk k b n t) ∧ W'.cell? ⟨w.heap.size, 0, none⟩ = some (.int .i64 k) ∧ W'.cell? ⟨w.heap.size, 1, none⟩ = some (.int .i64 b) ∧ W'.cell? ⟨w.heap.size, 2, none⟩ = some (.int .i64 n) ∧ W'.cell? ⟨w.heap.size, 3, none⟩ = some (.string t))) := show ∀ W', _ from fun W' h => ⟨h, h.cell 0 _ rfl, h.cell 1 _ rfl, h.cell 2 _ rfl, h.cell 3 _ rfl⟩
    rw [ho] at HC
    have HC := Lib.hid HC
    clear ho hs hT0
    go_enter Tryd.func42, Tryd.ntmps42
    go_wp2_with fail
    refine HC.out.mono ?_
    rintro e W0 ⟨rfl, hb⟩
    have hT0 := HT0.out.next hb
    clear hb HC c0 c1 c2 c3
    go_wp2_with fail
    have LAYR := fun bn W (h : W.heap[bn]? = some (.cells #[.int .i64 k, .int .i64 b, .int .i64 n] 3 (0, 0))) => (show Calls Tryd.prog 58 #[.slice (some ⟨bn, 0, none⟩) 3 3] W fun e w' => (∃ v, e = .returned v ∧ w'.ownsRow W.heap.size 9 1 v 3 (strs (numSs (IT.mk k b n t).nums))) ∧ Below W.heap.size W w' from lay_any (IT.mk k b n t).nums W bn HNL.out (show 3 ≤ 16 by decide) (by rw [HIN.out]; exact h))
    have hs0 := block_lt hT0.row
    have hs1 : ∀ X, (W0.alloc X).heap.size = W0.heap.size + 1 := fun X => by simp
    have hs2 : ∀ X Y, ((W0.alloc X).alloc Y).heap.size = W0.heap.size + 2 := fun X Y => by simp
    have hk1 : ∀ X, ItAt w (W0.alloc X) (IT.mk k b n t) := fun X => hT0.next (bw_alloc (Below.refl _ _) _)
    have hk2 : ∀ X Y, ItAt w ((W0.alloc X).alloc Y) (IT.mk k b n t) := fun X Y => hT0.next (bw_alloc (bw_alloc (Below.refl _ _) _) _)
    go_region_held3 (fun W' => ItAt w W' (IT.mk k b n t) ∧ W'.cell? ⟨w.heap.size, 0, none⟩ = some (.int .i64 k) ∧ W'.cell? ⟨w.heap.size, 1, none⟩ = some (.int .i64 b) ∧ W'.cell? ⟨w.heap.size, 2, none⟩ = some (.int .i64 n) ∧ W'.cell? ⟨w.heap.size, 3, none⟩ = some (.string t))
      (first | assumption | exact KEEP.out _ hT0 | exact KEEP.out _ (hT0.next (Below.refl _ _).drew) | exact KEEP.out _ (hk1 _) | exact KEEP.out _ ((hk1 _).next (Below.refl _ _).drew) | exact KEEP.out _ (hk2 _ _) | exact KEEP.out _ ((hk2 _ _).next (Below.refl _ _).drew) | exact KEEP.out _ hTN | exact KEEP.out _ (hTN.next (bw_alloc (Below.refl _ _) _)) | exact KEEP.out _ hTA | exact KEEP.out _ hTW | fail)
      (first
        | (go_at_call 58; refine (LAYR _ _ (by first | exact heap_alloc_new W0 _ | exact heap_alloc2_new W0 _ _ | exact (Below.heap_alloc (W0.alloc _) _ _ (by simp)).trans (heap_alloc_new W0 _))).mono ?_; rintro e w' ⟨⟨v, rfl, hO⟩, hbN⟩; have hTN : ItAt w w' (IT.mk k b n t) := ItAt.next (And.left (by assumption)) hbN)
        | (go_at_call 59; refine (nwrite_ok _ (IT.mk k b n t).parts _ hrd (show 4 ≤ 1024 by decide) HPT.out).mono ?_; rintro e w6 ⟨rfl, hb6⟩; have hTW := hTA.next hb6)
        | (rw [if_pos (by rfl)]; refine wp_append_own _ (.tmp 14) (.tmp 17) 45 rfl _ 9 _ (.string ByteArray.empty) 1 16 Tryd.underlying45 str_info rfl rfl rfl rfl (by decide) _ 3 _ (by rfl) (hO.alloc _) ⟨w'.heap.size, 0, none⟩ 1 1 (strs [t]) (by rfl) rfl news_at (strs_cells _) (by unfold maxLen; omega) (by omega) (Nat.le_trans hbN.size (by simp)) ?_; intro v5 w5 hO5 hg5 _; have hTA := (hTN.next (bw_alloc (Below.refl _ _) _)).grown hg5 (it_above hO hs0 (by simp <;> omega)); have hrd := it_parts (x := IT.mk k b n t) hO5 (Nat.lt_of_le_of_lt (Nat.zero_le _) (block_lt hTA.row)))
        | (rw [if_pos (by rfl)]; refine wp_append_own _ (.tmp 14) (.tmp 17) 45 rfl _ 9 _ (.string ByteArray.empty) 1 16 Tryd.underlying45 str_info rfl rfl rfl rfl (by decide) _ 3 _ (by rfl) hO ⟨W0.heap.size + 1, 0, none⟩ 1 1 (strs [t]) (by rfl) rfl (it_rowat (it_keep hbN (by exact heap_alloc2_new W0 _ _))) (strs_cells _) (by unfold maxLen; omega) (by omega) hbN.size ?_; intro v5 w5 hO5 hg5 _; have hTA := hTN.grown hg5 (it_above hO hs0 (by simp <;> omega)); have hrd := it_parts (x := IT.mk k b n t) hO5 (Nat.lt_of_le_of_lt (Nat.zero_le _) (block_lt hTA.row)))
        | (rw [if_pos (by rfl)]; refine wp_append_own _ (.tmp 14) (.tmp 17) 45 rfl _ 9 _ (.string ByteArray.empty) 1 16 Tryd.underlying45 str_info rfl rfl rfl rfl (by decide) _ 3 _ (by rfl) hO ⟨W0.heap.size, 0, none⟩ 1 1 (strs [t]) (by rfl) rfl (it_rowat (it_keep hbN (by exact (Below.heap_alloc (W0.alloc _) _ _ (by simp)).trans (heap_alloc_new W0 _)))) (strs_cells _) (by unfold maxLen; omega) (by omega) hbN.size ?_; intro v5 w5 hO5 hg5 _; have hTA := hTN.grown hg5 (it_above hO hs0 (by simp <;> omega)); have hrd := it_parts (x := IT.mk k b n t) hO5 (Nat.lt_of_le_of_lt (Nat.zero_le _) (block_lt hTA.row)))
        )
    all_goals
      have HT6 := Lib.hid hTW
      clear hTW hTA hTN hb6 hrd hO hO5 hg5 hbN LAYR KEEP hs0 hs1 hs2 hk1 hk2 hT0
      go_wp2_with fail
      go_ret2
      rw [HR.out]
      exact ⟨rfl, HT6.out.b⟩
open Go.RowKit
set_option maxHeartbeats 1000000
set_option maxRecDepth 4000
instance : DecidableEq IT := fun a b => by
  cases a; cases b
  rw [IT.mk.injEq]
  infer_instance
instance : DecidableEq PT := fun a b => by
  cases a; cases b
  rw [PT.mk.injEq]
  infer_instance
theorem pk_int {P : Program} {t : TypeId} {k : IntKind} (hu : P.underlying t = some (.int k)) (cs : List Value) (i : Nat) (v : Value) (hv : cs[i]? = some v) (w : World) : (part t cs.toArray i).run P w = .ok v w := by
  simp [part, isAgg, run_underlying hu, hv]
theorem pk_str (cs : List Value) (i : Nat) (v : Value) (hv : cs[i]? = some v) (w : World) : (part 9 cs.toArray i).run Tryd.prog w = .ok v w := by
  simp [part, isAgg, run_underlying Tryd.underlying9, hv]
theorem pk_bool (cs : List Value) (i : Nat) (v : Value) (hv : cs[i]? = some v) (w : World) : (part 4 cs.toArray i).run Tryd.prog w = .ok v w := by
  simp [part, isAgg, run_underlying Tryd.underlying4, hv]
theorem pk_beq (a b : ByteArray) : (a.toList == b.toList) = decide (a = b) := by
  by_cases h : a = b
  · subst h; simp
  · rw [decide_eq_false h, beq_eq_false_iff_ne]
    intro e
    rw [ByteArray.toList_eq, ByteArray.toList_eq] at e
    exact h (ByteArray.ext (Array.ext' e))
theorem it_eq (x y : IT) (w : World) : (Op.equalIn 10000 59 (.agg x.cells.toArray) (.agg y.cells.toArray)).run Tryd.prog w = .ok (decide (x = y)) w := by
  rw [run_equalIn_struct w 9999 _ _ _ (by simp only [Program.fieldsOf, Tryd.underlying59]) (by kernel_rfl)]
  simp only [Program.fieldsOf, Tryd.underlying59, Op.eqFields]
  rw [if_pos (by decide), if_pos (by decide), if_pos (by decide), if_pos (by decide)]
  have x0 := pk_int Tryd.underlying3 x.cells 0 (.int .i64 x.kind) rfl
  have x1 := pk_int Tryd.underlying3 x.cells 1 (.int .i64 x.by_) rfl
  have x2 := pk_int Tryd.underlying3 x.cells 2 (.int .i64 x.n) rfl
  have x3 := pk_str x.cells 3 (.string x.text) rfl
  have y0 := pk_int Tryd.underlying3 y.cells 0 (.int .i64 y.kind) rfl
  have y1 := pk_int Tryd.underlying3 y.cells 1 (.int .i64 y.by_) rfl
  have y2 := pk_int Tryd.underlying3 y.cells 2 (.int .i64 y.n) rfl
  have y3 := pk_str y.cells 3 (.string y.text) rfl
  have i1 : ∀ (a b : Int) (w : World), (Op.equalIn 9999 3 (.int .i64 a) (.int .i64 b)).run Tryd.prog w = .ok (a == b) w := fun a b w => run_equalIn_int w 9998 _ _ _ a b Tryd.underlying3
  have i3 : ∀ (a b : ByteArray) (w : World), (Op.equalIn 9999 9 (.string a) (.string b)).run Tryd.prog w = .ok (decide (a = b)) w := fun a b w => by rw [run_equalIn_string w 9998 _ a b Tryd.underlying9, pk_beq]
  simp only [Sem.run_bind, Sem.run_ite, Sem.run_pure, Result.andThen_ok, i1, i3, x0, x1, x2, x3, y0, y1, y2, y3]
  by_cases h0 : x.kind = y.kind
  case neg => rw [decide_eq_false (fun h : x = y => h0 (congrArg IT.kind h))]; simp [h0]
  case pos =>
    by_cases h1 : x.by_ = y.by_
    case neg => rw [decide_eq_false (fun h : x = y => h1 (congrArg IT.by_ h))]; simp [h1]
    case pos =>
      by_cases h2 : x.n = y.n
      case neg => rw [decide_eq_false (fun h : x = y => h2 (congrArg IT.n h))]; simp [h2]
      case pos =>
        by_cases h3 : x.text = y.text
        case neg => rw [decide_eq_false (fun h : x = y => h3 (congrArg IT.text h))]; simp [h3]
        case pos =>
          have h : x = y := by
            cases x; cases y; simp_all
          rw [decide_eq_true h]
          simp [h]
theorem pt_eq (x y : PT) (w : World) : (Op.equalIn 10000 57 (.agg x.cells.toArray) (.agg y.cells.toArray)).run Tryd.prog w = .ok (decide (x = y)) w := by
  rw [run_equalIn_struct w 9999 _ _ _ (by simp only [Program.fieldsOf, Tryd.underlying57]) (by kernel_rfl)]
  simp only [Program.fieldsOf, Tryd.underlying57, Op.eqFields]
  rw [if_pos (by decide), if_pos (by decide)]
  have x0 := pk_bool x.cells 0 (.bool x.del) rfl
  have x1 := pk_str x.cells 1 (.string x.text) rfl
  have y0 := pk_bool y.cells 0 (.bool y.del) rfl
  have y1 := pk_str y.cells 1 (.string y.text) rfl
  have i2 : ∀ (a b : Bool) (w : World), (Op.equalIn 9999 4 (.bool a) (.bool b)).run Tryd.prog w = .ok (a == b) w := fun a b w => run_equalIn_bool' w 9998 _ a b Tryd.underlying4
  have i3 : ∀ (a b : ByteArray) (w : World), (Op.equalIn 9999 9 (.string a) (.string b)).run Tryd.prog w = .ok (decide (a = b)) w := fun a b w => by rw [run_equalIn_string w 9998 _ a b Tryd.underlying9, pk_beq]
  simp only [Sem.run_bind, Sem.run_ite, Sem.run_pure, Result.andThen_ok, i2, i3, x0, x1, y0, y1]
  by_cases h0 : x.del = y.del
  case neg => rw [decide_eq_false (fun h : x = y => h0 (congrArg PT.del h))]; simp [h0]
  case pos =>
    by_cases h3 : x.text = y.text
    case neg => rw [decide_eq_false (fun h : x = y => h3 (congrArg PT.text h))]; simp [h3]
    case pos =>
      have h : x = y := by
        cases x; cases y; simp_all
      rw [decide_eq_true h]
      simp [h]
end Go.Proofs.YtbeooeihedhabaaDoor
