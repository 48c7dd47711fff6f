/- The row of TxBack. -/
import Derived.Test.YtckfdmkjeocadaaDoorOpen
import Derived.Test.YtckfdmkjeocadaaDoorCards
import Derived.Test.YtckfdmkjeocadaaDoorTie
import Derived.ChangeSame
import Derived.ChangeVars
import Derived.JoinedOf
import Derived.RowKit
import Derived.LaidLaws
import Derived.SizedLaws
import Derived.ChangeMaps5
namespace Go.Proofs.YtckfdmkjeocadaaDoor
open Go.ChangeShapes Go.WideShapes Go.ChangeAt Go.RowKit
abbrev rlaid {H : Type} : List (String × DataW H) := [("cavalcade/digest.rounds", Rows.laid_cavalcade_digest_rounds)]
theorem r_own : ownKnob Tryd.prog.godebug = none := by kernel_rfl
theorem r_laidOut : laidOutB Tryd.prog = true := by kernel_rfl
def rcells : Array Value := (rkL.map fun n => Value.int .u32 n).toArray
noncomputable def laidWorld (os : Os) : World :=
  { World.holding Tryd.prog os ⟨#[], #[], []⟩ with heap := (World.holding Tryd.prog os ⟨#[], #[], []⟩).heap.modify 0 fun
      | .cells _ t frozen => .cells rcells t frozen
      | o => o }
theorem laidWorld_row (os : Os) (args : Array Value) : ((laidWorld os).forCall (fun _ _ => 0) ⟨#[], args, []⟩).memory.heap[0]? = some (.cells rcells 139 (0, 0)) := by kernel_rfl
theorem laidWorld_met (os : Os) (args : Array Value) : laidMetH Tryd.prog rlaid ((laidWorld os).forCall (fun _ _ => 0) ⟨#[], args, []⟩).memory :=
  laidMetH_of_parts (laidMet_of_run' 8 (by kernel_rfl) (by kernel_rfl)) (by kernel_rfl)
theorem roundsH {W : World} (h : laidMetH Tryd.prog rlaid W) : RoundsAt W := rounds_of_laid (show laidMet Tryd.prog rlaid W from h)
theorem tx_weights {H : Type} {dd : List (DataW H)} {l : List UInt8} (h4 : dd[4]? = some (.lit (.string l))) : l.length ∈ (DataW.agg dd).weights Tryd.prog 25 := by
  rw [DataW.weights, Tryd.underlying25]
  exact DataW.weights_mem_each (j := 4) (t := 9) rfl h4 _ (by rw [DataW.weights]; exact List.mem_singleton.2 rfl)
theorem tx_sized {H : Type} {ts : List TypeId} {ds dd : List (DataW H)} {s : ByteArray} (hsz : ∀ n ∈ DataW.weightsEach Tryd.prog ts ds, decide (n ≤ reachBytes) = true) {j : Nat} (ht : ts[j]? = some 25) (hd : ds[j]? = some (.agg dd))
    (h4 : dd[4]? = some (.lit (.string s.data.toList))) : s.size ≤ 140737488351232 := by
  have h := hsz _ (DataW.weights_mem_each ht hd _ (tx_weights h4))
  have h2 := of_decide_eq_true h
  rw [Array.length_toList] at h2
  exact h2
set_option maxRecDepth 100000 in
theorem txBack_lifted (os : Os) (started : os.Started) (H : Type) (enc : TypeId × Value → H) :
    ReturnsInHanded {} Tryd.checked os 3 .any (fun w args => (Rows.txBackSpec.pre enc Tryd.prog Tryd.f3 [] false w args ∧ laidMetH Tryd.prog rlaid w) ∧ sizedMet enc Tryd.prog Tryd.f3 (OpenSpec.ofChange Rows.txBackSpec) false w args)
      (Rows.txBackSpec.post enc Tryd.prog Tryd.f3 false true false false) := by
  refine returnsInHanded_of_change_and (C := Tryd.checked) (X := fun w _ => laidMetH Tryd.prog rlaid w) (fun _ _ _ hh h => h.of_heap hh) r_own started (by kernel_rfl) Tryd.func3
    (ChangeSpec.witness_at (enc := enc) (C := Tryd.checked) (os := os) (X := fun w _ => laidMetH Tryd.prog rlaid w) false (laidWorld os) #[.agg zlTx.toArray, .string ByteArray.empty] 8 rfl (by kernel_rfl) (by kernel_rfl) (by kernel_rfl) (by kernel_rfl) (by kernel_rfl) (laidWorld_met os _)) ?_
  intro W base args ds gs before hval0 hW _ hsz0 hL _
  have hval : ∀ (j : Nat) t v, Tryd.f3.params[j]? = some t → args[j]? = some v → Value.okWide Tryd.prog W .any base t v := hval0
  have hsz : (DataW.weightsEach Tryd.prog (Tryd.f3.params.toList ++ Rows.txBackSpec.plain.varTypes Tryd.prog) (ds ++ gs)).all (· ≤ reachBytes) = true := hsz0
  have hW' := hW
  obtain ⟨p, q, hA0, hV0, rfl, hfz, hnd⟩ := hW
  have hA : DataW.TrodAll enc Tryd.prog W 0 (fun _ => true) true Tryd.f3.params.toList args.toList ds p := hA0
  have hV : DataW.TrodVars enc Tryd.prog W (fun _ => true) [] gs q := hV0
  rw [Tryd.params3] at hA hval hsz
  obtain ⟨v0, v1, d0, d1, p0, p1, rfl, rfl, rfl, h0, h1⟩ := trodAll_two hA
  obtain ⟨cs, rfl, _⟩ := okWide_struct Tryd.underlying25 (hval 0 25 v0 rfl rfl)
  have h0' := h0
  obtain ⟨fuel, hf⟩ := h0'
  obtain ⟨t, hcs, hp, ⟨dd, hd0, hd4⟩, hwf⟩ := tx_of_trod hf
  obtain rfl : cs = t.cells.toArray := Array.ext' hcs
  obtain rfl : p0 = [] := hp
  obtain rfl : d0 = .agg dd := hd0
  obtain ⟨s, rfl, rfl, rfl, hs⟩ := Go.ChangeMaps.open_string Tryd.underlying9 (hval 1 9 v1 rfl rfl) h1
  have hss := sized_string hsz (j := 1) (t := 9) rfl rfl
  have hdd : t.data.size ≤ 140737488351232 := tx_sized (List.all_eq_true.1 hsz) (j := 0) rfl rfl hd4
  have hR := roundsH hL
  obtain ⟨rfl, rfl⟩ : gs = [] ∧ q = [] := by
    cases gs with
    | nil => exact ⟨rfl, hV⟩
    | cons g r => exact absurd hV (by intro h; cases h)
  refine (back_any t s W (hwf hdd) ?_ hR).mono fun e W' ⟨he, hb⟩ => ?_
  · exact Nat.le_trans (show s.size ≤ 140737488351232 by simpa [reachBytes] using hss) (by decide)
  subst he
  refine ⟨_, rfl, _, _, _, [], [], [], hW', ?_, ?_, ?_, hb.frame _, fun h => by cases h⟩
  · exact trodAll_mk1 (shut_bool Tryd.underlying4 true)
  · exact trodAll_mk2 (Below.trod r_laidOut (by kernel_rfl) (of_decide_eq_true (by kernel_rfl)) h0 hb (fun x hx => by cases hx)) (Below.trod r_laidOut (by kernel_rfl) (of_decide_eq_true (by kernel_rfl)) h1 hb (fun x hx => by cases hx))
  · rfl
theorem txBack_holds : Rows.TxBackSaid :=
  OpenClaim.holds_of_wide 3 Tryd.f3 rfl rfl rfl rfl rfl rfl rfl ⟨rfl, rfl, rfl, rfl, rfl⟩ rfl rfl rfl rfl rfl (by kernel_rfl) Tryd.func3 (by kernel_rfl)
    (of_decide_eq_true (by kernel_rfl)) (by unfold Func.isWrapper; rw [if_neg (of_decide_eq_false (by kernel_rfl))]; exact ⟨rfl, rfl⟩)
    (fun os started H enc _ => txBack_lifted os started H enc)
end Go.Proofs.YtckfdmkjeocadaaDoor
