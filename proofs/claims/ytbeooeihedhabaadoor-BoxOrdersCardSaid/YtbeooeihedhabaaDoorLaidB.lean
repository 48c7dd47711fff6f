/- What is read of a hash, of the laid table: plain openings. The table as the program's text lays it, in a row's words; texts of a machine's size. -/
import Derived.Test.YtbeooeihedhabaaDoorSeal
import Derived.Test.YtbeooeihedhabaaDoorProg
import Derived.ProofKit
import Derived.LaidLaws
import Derived.Test.YtbeooeihedhabaaDoorRows
import Derived.Test.YtbeooeihedhabaaDoorCards
import Derived.Test.YtbeooeihedhabaaDoorTie
import Derived.ChangeSame
import Derived.ChangeVars
import Derived.JoinedOf
import Derived.RowKit
import Derived.SizedLaws
import Derived.ChangeMaps5
namespace Go.Proofs.YtbeooeihedhabaaDoor
open Go.ChangeShapes Go.WideShapes Go.RowKit
set_option maxRecDepth 4000
section
variable {H : Type} {enc : TypeId × Value → H} {w : World} {base : Nat} {sp : Nat → Bool} {held : Bool}
theorem int_of_trod {P : Program} {fuel : Nat} {t : TypeId} {k : IntKind} {c : Value} {y : DataW H × List MemPlace}
    (ht : P.underlying t = some (.int k)) (h : DataW.trod enc P w base sp held fuel t [c] = some y) : ∃ n, c = .int k n ∧ y = (.lit (.int k n), []) ∧ (Lit.int k n).wf = true := by
  cases fuel with
  | zero => simp [DataW.trod] at h
  | succ fuel =>
    cases c <;> simp [DataW.trod, ht] at h
    rename_i k' n
    obtain ⟨⟨rfl, hw⟩, rfl⟩ := h
    exact ⟨n, rfl, rfl, hw⟩
theorem take_one {cs : List Value} {i : Nat} (h : i < cs.length) : (cs.drop (i * 1)).take 1 = [cs[i]'h] := by
  rw [Nat.mul_one, List.drop_eq_getElem_cons h, List.take_succ_cons, List.take_zero]
theorem hash_of_trod {fuel : Nat} {cs : List Value} {y : DataW H × List MemPlace} (h : DataW.trod enc Tryd.prog w base sp held fuel 51 cs = some y) :
    ∃ l : List UInt8, l.length = 32 ∧ cs = u8s l ∧ y.2 = [] := by
  cases fuel with
  | zero => simp [DataW.trod] at h
  | succ fuel =>
    have hc1 : Tryd.prog.cellsOf 5 = 1 := by kernel_rfl
    have hc32 : Tryd.prog.cellsOf 51 = 32 := by kernel_rfl
    simp only [DataW.trod, Tryd.underlying51, hc1, hc32] at h
    split at h
    · rename_i hl
      rw [Option.map_eq_some_iff] at h
      obtain ⟨xs, hx, rfl⟩ := h
      have hlen : xs.length = 32 := by rw [mapM_some_length hx, List.length_range]
      have hi : ∀ i (hi : i < cs.length), ∃ n : Nat, n < 256 ∧ cs[i]'hi = .int .u8 n ∧ ∃ q, xs[i]? = some q ∧ q.2 = [] := by
        intro i hi
        have h1 := mapM_some_get hx i i (List.getElem?_range (by omega))
        rw [take_one hi, List.getElem?_eq_getElem (by omega)] at h1
        obtain ⟨n, e1, e2, e3⟩ := int_of_trod Tryd.underlying5 h1
        have hw0 : IntKind.u8.min ≤ n ∧ n ≤ IntKind.u8.max := by simpa [Lit.wf] using e3
        have hw : 0 ≤ n ∧ n < 256 := by
          have h1 : IntKind.u8.min = 0 := by decide
          have h2 : IntKind.u8.max = 255 := by decide
          omega
        obtain ⟨m, rfl⟩ := Int.eq_ofNat_of_zero_le hw.1
        exact ⟨m, by omega, e1, _, List.getElem?_eq_getElem (by omega), by rw [e2]⟩
      refine ⟨cs.map fun v => UInt8.ofNat (match v with | .int _ n => n.toNat | _ => 0), by simpa using hl, ?_, ?_⟩
      · apply List.ext_getElem
        · simp [u8s]
        · intro i h1 h2
          obtain ⟨n, hn, e, _⟩ := hi i h1
          simp [u8s, e]
          omega
      · rw [List.flatMap_eq_nil_iff]
        intro q hq
        obtain ⟨i, hi2, rfl⟩ := List.getElem_of_mem hq
        obtain ⟨_, _, _, q', hq', e⟩ := hi i (by omega)
        rw [List.getElem?_eq_getElem hi2] at hq'
        injection hq' with hq'
        rw [hq', e]
    · cases h
theorem str_of_trod {fuel : Nat} {c : Value} {y : DataW H × List MemPlace} (h : DataW.trod enc Tryd.prog w base sp held fuel 9 [c] = some y) : ∃ s, c = .string s ∧ y = (.lit (.string s.data.toList), []) := by
  cases fuel with
  | zero => simp [DataW.trod] at h
  | succ fuel =>
    cases c <;> simp [DataW.trod, Tryd.underlying9] at h
    rename_i s
    exact ⟨s, rfl, h.2.symm⟩
theorem bool_of_trod {fuel : Nat} {c : Value} {y : DataW H × List MemPlace} (h : DataW.trod enc Tryd.prog w base sp held fuel 4 [c] = some y) : ∃ b, c = .bool b ∧ y = (.lit (.bool b), []) := by
  cases fuel with
  | zero => simp [DataW.trod] at h
  | succ fuel =>
    cases c <;> simp [DataW.trod, Tryd.underlying4] at h
    rename_i b
    exact ⟨b, rfl, h.symm⟩
theorem take_at {cs : List Value} {i : Nat} (h : i < cs.length) : (cs.drop i).take 1 = [cs[i]'h] := by
  rw [List.drop_eq_getElem_cons h, List.take_succ_cons, List.take_zero]
theorem table_of_trod {fuel : Nat} {cs : List Value} {ds : List (DataW H)} {p : List MemPlace} (h : DataW.trod enc Tryd.prog w base sp held fuel 120 cs = some (.agg ds, p)) :
    cs.length = 64 ∧ ∀ i (hi : i < cs.length), ∃ n : Int, cs[i]'hi = .int .u32 n ∧ ds[i]? = some (.lit (.int .u32 n)) := by
  cases fuel with
  | zero => simp [DataW.trod] at h
  | succ fuel =>
    have hc1 : Tryd.prog.cellsOf 77 = 1 := by kernel_rfl
    have hc64 : Tryd.prog.cellsOf 120 = 64 := by kernel_rfl
    simp only [DataW.trod, Tryd.underlying120, hc1, hc64] at h
    split at h
    · rename_i hl
      rw [Option.map_eq_some_iff] at h
      obtain ⟨xs, hx, h2⟩ := h
      simp only [Prod.mk.injEq, DataW.agg.injEq] at h2
      refine ⟨hl, fun i hi => ?_⟩
      have hlen : xs.length = 64 := by rw [mapM_some_length hx, List.length_range]
      have h1 := mapM_some_get hx i i (List.getElem?_range (by omega))
      rw [take_one hi, List.getElem?_eq_getElem (by omega)] at h1
      obtain ⟨n, e1, e2, _⟩ := int_of_trod Tryd.underlying77 h1
      refine ⟨n, e1, ?_⟩
      rw [← h2.1, List.getElem?_map, List.getElem?_eq_getElem (by omega), e2]
      rfl
    · cases h
end
theorem rounds_global : Tryd.prog.globalNamed "cavalcade/digest.rounds" = some 0 := by kernel_rfl
theorem rounds_type : (Tryd.prog.globals[0]?).map (·.type) = some 120 := by kernel_rfl
theorem rounds_laid {H : Type} : (Rows.laid_cavalcade_digest_rounds : DataW H) = .agg (rkL.map fun n => .lit (.int .u32 n)) := rfl
theorem rounds_of_laid {W : World} (h : laidMet Tryd.prog [("cavalcade/digest.rounds", Rows.laid_cavalcade_digest_rounds)] W) : RoundsAt W := by
  obtain ⟨ps, ⟨g, t, cs, fuel, p, q, hg, ht, hvar, hd, _, _⟩, _⟩ := h
  obtain rfl := Option.some.inj (rounds_global.symm.trans hg)
  obtain rfl := Option.some.inj (rounds_type.symm.trans ht)
  rw [rounds_laid] at hd
  obtain ⟨hl, hc⟩ := table_of_trod hd
  have hcell : ∀ i, i < 64 → W.cell? ⟨0, i, none⟩ = some (.int .u32 (rkL.getD i 0)) := by
    intro i hi
    obtain ⟨n, e1, e2⟩ := hc i (by omega)
    have h1 := World.var?_cell hg hvar i
    rw [h1, ← Array.getElem?_toList, List.getElem?_eq_getElem (by omega), e1]
    rw [List.getElem?_map] at e2
    rw [List.getD_eq_getElem?_getD]
    cases hr : rkL[i]? with
    | none => rw [hr] at e2; simp at e2
    | some m =>
      rw [hr] at e2
      simp only [Option.map_some, Option.some.injEq, DataW.lit.injEq, Lit.int.injEq, true_and] at e2
      rw [e2]
      rfl
  exact ⟨Nat.lt_of_le_of_lt (Nat.zero_le _) (block_of_cell (hcell 0 (by decide))), hcell⟩
open Go.ChangeShapes Go.WideShapes Go.ChangeAt Go.RowKit
abbrev rlaid {H : Type} : List (String × DataW H) := [("cavalcade/digest.rounds", Rows.laid_cavalcade_digest_rounds)]
theorem r_own : ownKnob Tryd.prog.godebug = none := by kernel_rfl
theorem r_laidOut : laidOutB Tryd.prog = true := by kernel_rfl
def roundCells : Array Value := (rkL.map fun n => Value.int .u32 n).toArray
noncomputable def laidWorld (os : Os) : World :=
  { World.holding Tryd.prog os ⟨#[], #[], []⟩ with heap := (World.holding Tryd.prog os ⟨#[], #[], []⟩).heap.modify 0 fun
      | .cells _ t frozen => .cells roundCells t frozen
      | o => o }
theorem laidWorld_row (os : Os) (args : Array Value) : ((laidWorld os).forCall (fun _ _ => 0) ⟨#[], args, []⟩).memory.heap[0]? = some (.cells roundCells 120 (0, 0)) := by kernel_rfl
theorem laidWorld_met (os : Os) (args : Array Value) : laidMetH Tryd.prog rlaid ((laidWorld os).forCall (fun _ _ => 0) ⟨#[], args, []⟩).memory :=
  laidMetH_of_parts (laidMet_of_run' 8 (by kernel_rfl) (by kernel_rfl)) (by kernel_rfl)
theorem roundsH {W : World} (h : laidMetH Tryd.prog rlaid W) : RoundsAt W := rounds_of_laid (show laidMet Tryd.prog rlaid W from h)
end Go.Proofs.YtbeooeihedhabaaDoor
