/- What is read of a hash, of a transaction, of the laid table: plain openings. -/
import Derived.Test.YtckfdmkjeocadaaDoorLaw04
import Derived.ProofKit
import Derived.LaidLaws
import Derived.Test.YtckfdmkjeocadaaDoorRows
namespace Go.Proofs.YtckfdmkjeocadaaDoor
open Go.ChangeShapes Go.WideShapes Go.RowKit
set_option maxRecDepth 4000
section
variable {H : Type} {enc : TypeId × Value → H} {w : World} {base : Nat} {sp : Nat → Bool} {held : Bool}
theorem int_of_trod {P : Program} {fuel : Nat} {t : TypeId} {k : IntKind} {c : Value} {y : DataW H × List MemPlace}
    (ht : P.underlying t = some (.int k)) (h : DataW.trod enc P w base sp held fuel t [c] = some y) : ∃ n, c = .int k n ∧ y = (.lit (.int k n), []) ∧ (Lit.int k n).wf = true := by
  cases fuel with
  | zero => simp [DataW.trod] at h
  | succ fuel =>
    cases c <;> simp [DataW.trod, ht] at h
    rename_i k' n
    obtain ⟨⟨rfl, hw⟩, rfl⟩ := h
    exact ⟨n, rfl, rfl, hw⟩
theorem take_one {cs : List Value} {i : Nat} (h : i < cs.length) : (cs.drop (i * 1)).take 1 = [cs[i]'h] := by
  rw [Nat.mul_one, List.drop_eq_getElem_cons h, List.take_succ_cons, List.take_zero]
theorem hash_of_trod {fuel : Nat} {cs : List Value} {y : DataW H × List MemPlace} (h : DataW.trod enc Tryd.prog w base sp held fuel 23 cs = some y) :
    ∃ l : List UInt8, l.length = 32 ∧ cs = u8s l ∧ y.2 = [] := by
  cases fuel with
  | zero => simp [DataW.trod] at h
  | succ fuel =>
    have hc1 : Tryd.prog.cellsOf 5 = 1 := by kernel_rfl
    have hc32 : Tryd.prog.cellsOf 23 = 32 := by kernel_rfl
    simp only [DataW.trod, Tryd.underlying23, hc1, hc32] at h
    split at h
    · rename_i hl
      rw [Option.map_eq_some_iff] at h
      obtain ⟨xs, hx, rfl⟩ := h
      have hlen : xs.length = 32 := by rw [mapM_some_length hx, List.length_range]
      have hi : ∀ i (hi : i < cs.length), ∃ n : Nat, n < 256 ∧ cs[i]'hi = .int .u8 n ∧ ∃ q, xs[i]? = some q ∧ q.2 = [] := by
        intro i hi
        have h1 := mapM_some_get hx i i (List.getElem?_range (by omega))
        rw [take_one hi, List.getElem?_eq_getElem (by omega)] at h1
        obtain ⟨n, e1, e2, e3⟩ := int_of_trod Tryd.underlying5 h1
        have hw0 : IntKind.u8.min ≤ n ∧ n ≤ IntKind.u8.max := by simpa [Lit.wf] using e3
        have hw : 0 ≤ n ∧ n < 256 := by
          have h1 : IntKind.u8.min = 0 := by decide
          have h2 : IntKind.u8.max = 255 := by decide
          omega
        obtain ⟨m, rfl⟩ := Int.eq_ofNat_of_zero_le hw.1
        exact ⟨m, by omega, e1, _, List.getElem?_eq_getElem (by omega), by rw [e2]⟩
      refine ⟨cs.map fun v => UInt8.ofNat (match v with | .int _ n => n.toNat | _ => 0), by simpa using hl, ?_, ?_⟩
      · apply List.ext_getElem
        · simp [u8s]
        · intro i h1 h2
          obtain ⟨n, hn, e, _⟩ := hi i h1
          simp [u8s, e]
          omega
      · rw [List.flatMap_eq_nil_iff]
        intro q hq
        obtain ⟨i, hi2, rfl⟩ := List.getElem_of_mem hq
        obtain ⟨_, _, _, q', hq', e⟩ := hi i (by omega)
        rw [List.getElem?_eq_getElem hi2] at hq'
        injection hq' with hq'
        rw [hq', e]
    · cases h
theorem str_of_trod {fuel : Nat} {c : Value} {y : DataW H × List MemPlace} (h : DataW.trod enc Tryd.prog w base sp held fuel 9 [c] = some y) : ∃ s, c = .string s ∧ y = (.lit (.string s.data.toList), []) := by
  cases fuel with
  | zero => simp [DataW.trod] at h
  | succ fuel =>
    cases c <;> simp [DataW.trod, Tryd.underlying9] at h
    rename_i s
    exact ⟨s, rfl, h.2.symm⟩
theorem bool_of_trod {fuel : Nat} {c : Value} {y : DataW H × List MemPlace} (h : DataW.trod enc Tryd.prog w base sp held fuel 4 [c] = some y) : ∃ b, c = .bool b ∧ y = (.lit (.bool b), []) := by
  cases fuel with
  | zero => simp [DataW.trod] at h
  | succ fuel =>
    cases c <;> simp [DataW.trod, Tryd.underlying4] at h
    rename_i b
    exact ⟨b, rfl, h.symm⟩
theorem i64_of_wf {n : Int} (h : (Lit.int .i64 n).wf = true) : i64ok n := by
  have hw0 : IntKind.i64.min ≤ n ∧ n ≤ IntKind.i64.max := by simpa [Lit.wf] using h
  have h1 : IntKind.i64.min = -9223372036854775808 := by decide
  have h2 : IntKind.i64.max = 9223372036854775807 := by decide
  unfold i64ok
  omega
theorem take_at {cs : List Value} {i : Nat} (h : i < cs.length) : (cs.drop i).take 1 = [cs[i]'h] := by
  rw [List.drop_eq_getElem_cons h, List.take_succ_cons, List.take_zero]
theorem split72 : ∀ {cs : List Value} (hl : cs.length = 72), cs = [cs[0]'(by omega), cs[1]'(by omega), cs[2]'(by omega), cs[3]'(by omega), cs[4]'(by omega), cs[5]'(by omega), cs[6]'(by omega), cs[7]'(by omega)] ++ ((cs.drop 8).take 32 ++ (cs.drop 40).take 32)
  | a0 :: a1 :: a2 :: a3 :: a4 :: a5 :: a6 :: a7 :: r, hl => by
    have hr : r.length = 64 := by simpa using hl
    simp only [List.getElem_cons_zero, List.getElem_cons_succ, List.drop_succ_cons, List.drop_zero, List.cons_append, List.nil_append]
    rw [List.take_of_length_le (l := List.drop 32 r) (by rw [List.length_drop]; omega), List.take_append_drop]
  | [], hl => by simp at hl
  | [_], hl => by simp at hl
  | [_, _], hl => by simp at hl
  | [_, _, _], hl => by simp at hl
  | [_, _, _, _], hl => by simp at hl
  | [_, _, _, _, _], hl => by simp at hl
  | [_, _, _, _, _, _], hl => by simp at hl
  | [_, _, _, _, _, _, _], hl => by simp at hl
theorem tx_of_trod {fuel : Nat} {cs : List Value} {y : DataW H × List MemPlace} (h : DataW.trod enc Tryd.prog w base sp held fuel 25 cs = some y) :
    ∃ t : TX, cs = t.cells ∧ y.2 = [] ∧ (∃ ds, y.1 = .agg ds ∧ ds[4]? = some (.lit (.string t.data.data.toList))) ∧ (t.data.size ≤ 140737488351232 → t.wf) := by
  cases fuel with
  | zero => simp [DataW.trod] at h
  | succ fuel =>
    have hc1 : Tryd.prog.cellsOf 3 = 1 := by kernel_rfl
    have hc2 : Tryd.prog.cellsOf 9 = 1 := by kernel_rfl
    have hc3 : Tryd.prog.cellsOf 4 = 1 := by kernel_rfl
    have hc32 : Tryd.prog.cellsOf 23 = 32 := by kernel_rfl
    have hc72 : Tryd.prog.cellsOf 25 = 72 := by kernel_rfl
    simp only [DataW.trod, Tryd.underlying25, hc72] at h
    split at h
    · rename_i hl
      rw [Option.map_eq_some_iff] at h
      obtain ⟨xs, hx, rfl⟩ := h
      have hlen := mapM_some_length hx
      have e0 := mapM_some_get hx 0 _ rfl
      simp only [hc1] at e0
      rw [take_at (by omega)] at e0
      rw [List.getElem?_eq_getElem (by simp at hlen; omega)] at e0
      obtain ⟨n0, c0, y0, w0⟩ := int_of_trod Tryd.underlying3 e0
      have e1 := mapM_some_get hx 1 _ rfl
      simp only [hc1] at e1
      rw [take_at (by omega)] at e1
      rw [List.getElem?_eq_getElem (by simp at hlen; omega)] at e1
      obtain ⟨n1, c1, y1, w1⟩ := int_of_trod Tryd.underlying3 e1
      have e2 := mapM_some_get hx 2 _ rfl
      simp only [hc1] at e2
      rw [take_at (by omega)] at e2
      rw [List.getElem?_eq_getElem (by simp at hlen; omega)] at e2
      obtain ⟨n2, c2, y2, w2⟩ := int_of_trod Tryd.underlying3 e2
      have e3 := mapM_some_get hx 3 _ rfl
      simp only [hc1] at e3
      rw [take_at (by omega)] at e3
      rw [List.getElem?_eq_getElem (by simp at hlen; omega)] at e3
      obtain ⟨n3, c3, y3, w3⟩ := int_of_trod Tryd.underlying3 e3
      have e4 := mapM_some_get hx 4 _ rfl
      simp only [hc2] at e4
      rw [take_at (by omega)] at e4
      rw [List.getElem?_eq_getElem (by simp at hlen; omega)] at e4
      obtain ⟨n4, c4, y4⟩ := str_of_trod e4
      have e5 := mapM_some_get hx 5 _ rfl
      simp only [hc3] at e5
      rw [take_at (by omega)] at e5
      rw [List.getElem?_eq_getElem (by simp at hlen; omega)] at e5
      obtain ⟨n5, c5, y5⟩ := bool_of_trod e5
      have e6 := mapM_some_get hx 6 _ rfl
      simp only [hc1] at e6
      rw [take_at (by omega)] at e6
      rw [List.getElem?_eq_getElem (by simp at hlen; omega)] at e6
      obtain ⟨n6, c6, y6, w6⟩ := int_of_trod Tryd.underlying3 e6
      have e7 := mapM_some_get hx 7 _ rfl
      simp only [hc1] at e7
      rw [take_at (by omega)] at e7
      rw [List.getElem?_eq_getElem (by simp at hlen; omega)] at e7
      obtain ⟨n7, c7, y7, w7⟩ := int_of_trod Tryd.underlying3 e7
      have e8 := mapM_some_get hx 8 _ rfl
      simp only [hc32] at e8
      rw [List.getElem?_eq_getElem (by simp at hlen; omega)] at e8
      obtain ⟨l8, m8, c8, y8⟩ := hash_of_trod e8
      have e9 := mapM_some_get hx 9 _ rfl
      simp only [hc32] at e9
      rw [List.getElem?_eq_getElem (by simp at hlen; omega)] at e9
      obtain ⟨l9, m9, c9, y9⟩ := hash_of_trod e9
      refine ⟨⟨n0, n1, n2, n3, n4, n5, n6, n7, l8, l9⟩, ?_, ?_, ⟨_, rfl, ?_⟩, fun hd => ⟨i64_of_wf w0, i64_of_wf w1, i64_of_wf w2, i64_of_wf w3, hd, i64_of_wf w6, i64_of_wf w7, m8, m9⟩⟩
      · simp only [TX.cells, ← c0, ← c1, ← c2, ← c3, ← c4, ← c5, ← c6, ← c7, ← c8, ← c9]
        exact split72 hl
      · show List.flatMap _ xs = []
        rw [List.flatMap_eq_nil_iff]
        intro q hq
        obtain ⟨i, hi, rfl⟩ := List.getElem_of_mem hq
        have hi2 : i < 10 := by simp at hlen; omega
        match i, hi2 with
        | 0, _ => rw [y0]
        | 1, _ => rw [y1]
        | 2, _ => rw [y2]
        | 3, _ => rw [y3]
        | 4, _ => rw [y4]
        | 5, _ => rw [y5]
        | 6, _ => rw [y6]
        | 7, _ => rw [y7]
        | 8, _ => exact y8
        | 9, _ => exact y9
      · have hx4 : 4 < xs.length := by simp at hlen; omega
        rw [List.getElem?_map, List.getElem?_eq_getElem hx4]
        exact congrArg (fun q : DataW H × List MemPlace => some q.1) y4
    · cases h
theorem table_of_trod {fuel : Nat} {cs : List Value} {ds : List (DataW H)} {p : List MemPlace} (h : DataW.trod enc Tryd.prog w base sp held fuel 139 cs = some (.agg ds, p)) :
    cs.length = 64 ∧ ∀ i (hi : i < cs.length), ∃ n : Int, cs[i]'hi = .int .u32 n ∧ ds[i]? = some (.lit (.int .u32 n)) := by
  cases fuel with
  | zero => simp [DataW.trod] at h
  | succ fuel =>
    have hc1 : Tryd.prog.cellsOf 123 = 1 := by kernel_rfl
    have hc64 : Tryd.prog.cellsOf 139 = 64 := by kernel_rfl
    simp only [DataW.trod, Tryd.underlying139, hc1, hc64] at h
    split at h
    · rename_i hl
      rw [Option.map_eq_some_iff] at h
      obtain ⟨xs, hx, h2⟩ := h
      simp only [Prod.mk.injEq, DataW.agg.injEq] at h2
      refine ⟨hl, fun i hi => ?_⟩
      have hlen : xs.length = 64 := by rw [mapM_some_length hx, List.length_range]
      have h1 := mapM_some_get hx i i (List.getElem?_range (by omega))
      rw [take_one hi, List.getElem?_eq_getElem (by omega)] at h1
      obtain ⟨n, e1, e2, _⟩ := int_of_trod Tryd.underlying123 h1
      refine ⟨n, e1, ?_⟩
      rw [← h2.1, List.getElem?_map, List.getElem?_eq_getElem (by omega), e2]
      rfl
    · cases h
end
theorem rounds_global : Tryd.prog.globalNamed "cavalcade/digest.rounds" = some 0 := by kernel_rfl
theorem rounds_type : (Tryd.prog.globals[0]?).map (·.type) = some 139 := by kernel_rfl
theorem rounds_laid {H : Type} : (Rows.laid_cavalcade_digest_rounds : DataW H) = .agg (rkL.map fun n => .lit (.int .u32 n)) := rfl
theorem rounds_of_laid {W : World} (h : laidMet Tryd.prog [("cavalcade/digest.rounds", Rows.laid_cavalcade_digest_rounds)] W) : RoundsAt W := by
  obtain ⟨ps, ⟨g, t, cs, fuel, p, q, hg, ht, hvar, hd, _, _⟩, _⟩ := h
  obtain rfl := Option.some.inj (rounds_global.symm.trans hg)
  obtain rfl := Option.some.inj (rounds_type.symm.trans ht)
  rw [rounds_laid] at hd
  obtain ⟨hl, hc⟩ := table_of_trod hd
  have hcell : ∀ i, i < 64 → W.cell? ⟨0, i, none⟩ = some (.int .u32 (rkL.getD i 0)) := by
    intro i hi
    obtain ⟨n, e1, e2⟩ := hc i (by omega)
    have h1 := World.var?_cell hg hvar i
    rw [h1, ← Array.getElem?_toList, List.getElem?_eq_getElem (by omega), e1]
    rw [List.getElem?_map] at e2
    rw [List.getD_eq_getElem?_getD]
    cases hr : rkL[i]? with
    | none => rw [hr] at e2; simp at e2
    | some m =>
      rw [hr] at e2
      simp only [Option.map_some, Option.some.injEq, DataW.lit.injEq, Lit.int.injEq, true_and] at e2
      rw [e2]
      rfl
  exact ⟨Nat.lt_of_le_of_lt (Nat.zero_le _) (block_of_cell (hcell 0 (by decide))), hcell⟩
end Go.Proofs.YtckfdmkjeocadaaDoor
