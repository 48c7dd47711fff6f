/- BoxOrders: for every input the law returns true, and each argument reads afterwards as it read before; the variable digest.rounds starts as the program's text lays it. -/
import Derived.Test.YtbeooeihedhabaaDoorLaidB
import Derived.Test.YtbeooeihedhabaaDoorBxROpen
import Derived.Test.YtbeooeihedhabaaDoorBxLaws4
import Derived.SevenTiedAt
namespace Go.Proofs.YtbeooeihedhabaaDoor
open Go.ChangeShapes Go.WideShapes Go.ChangeAt Go.RowKit
set_option maxRecDepth 100000 in
theorem boxOrders_lifted (os : Os) (started : os.Started) (H : Type) (enc : TypeId × Value → H) :
    ReturnsInHanded {} Tryd.checked os 7 .any (fun w args => (Rows.boxOrdersSpec.pre enc Tryd.prog Tryd.f7 [] false w args ∧ laidMetH Tryd.prog rlaid w) ∧ sizedMet enc Tryd.prog Tryd.f7 (OpenSpec.ofChange Rows.boxOrdersSpec) false w args)
      (Rows.boxOrdersSpec.post enc Tryd.prog Tryd.f7 false true false false) := by
  refine returnsInHanded_of_change_and (C := Tryd.checked) (X := fun w _ => laidMetH Tryd.prog rlaid w) (fun _ _ _ hh h => h.of_heap hh) r_own started (by kernel_rfl) Tryd.func7
    (ChangeSpec.witness_at (enc := enc) (C := Tryd.checked) (os := os) (X := fun w _ => laidMetH Tryd.prog rlaid w) false (laidWorld os) #[.slice none 0 0, .slice none 0 0] 8 rfl (by kernel_rfl) (by kernel_rfl) (by kernel_rfl) (by kernel_rfl) (by kernel_rfl) (laidWorld_met os _)) ?_
  intro W base args ds gs before hval0 hW _ hsz0 hL _
  have hval : ∀ (j : Nat) t v, Tryd.f7.params[j]? = some t → args[j]? = some v → Value.okWide Tryd.prog W .any base t v := hval0
  have hsz : (DataW.weightsEach Tryd.prog (Tryd.f7.params.toList ++ Rows.boxOrdersSpec.plain.varTypes Tryd.prog) (ds ++ gs)).all (· ≤ reachBytes) = true := hsz0
  have hW' := hW
  obtain ⟨p, q, hA0, hV0, rfl, hfz, hnd⟩ := hW
  have hA : DataW.TrodAll enc Tryd.prog W 0 (fun _ => true) true Tryd.f7.params.toList args.toList ds p := hA0
  have hV : DataW.TrodVars enc Tryd.prog W (fun _ => true) [] gs q := hV0
  rw [Tryd.params7] at hA hval hsz
  obtain ⟨v0, v1, d0, d1, p0, p1, rfl, rfl, rfl, h0, h1⟩ := trodAll_two hA
  obtain ⟨bks0, q0, c0, rfl, hlc0, hba0, hbl0⟩ := bks_open h0 (List.all_eq_true.1 hsz) (j := 0) rfl rfl (okWide_slice Tryd.underlying34 (hval 0 34 v0 rfl rfl))
  obtain ⟨bks1, q1, c1, rfl, hlc1, hba1, hbl1⟩ := bks_open h1 (List.all_eq_true.1 hsz) (j := 1) rfl rfl (okWide_slice Tryd.underlying34 (hval 1 34 v1 rfl rfl))
  have hR := roundsH hL
  obtain ⟨rfl, rfl⟩ : gs = [] ∧ q = [] := by
    cases gs with
    | nil => exact ⟨rfl, hV⟩
    | cons g r => exact absurd hV (by intro h; cases h)
  refine (boxOrders_any q0 c0 bks0 q1 c1 bks1 W hba0 hlc0 hbl0 (bks_some h0) hba1 hlc1 hbl1 (bks_some h1) hR).mono fun e W' ⟨he, hb⟩ => ?_
  subst he
  refine ⟨_, rfl, _, _, _, [], (p0 ++ p1), [], hW', ?_, ?_, ?_, hb.frame _, fun h => by cases h⟩
  · exact trodAll_mk1 (shut_bool Tryd.underlying4 true)
  · exact trodAll_mk2 (Below.trod r_laidOut (by kernel_rfl) (of_decide_eq_true (by kernel_rfl)) h0 hb (fun x hx => DataW.TrodAll.lt hA x (List.mem_append_left _ hx))) (Below.trod r_laidOut (by kernel_rfl) (of_decide_eq_true (by kernel_rfl)) h1 hb (fun x hx => DataW.TrodAll.lt hA x (List.mem_append_right _ hx)))
  · rfl
theorem boxOrders_holds : Rows.BoxOrdersSaid :=
  OpenClaim.holds_of_wide 7 Tryd.f7 rfl rfl rfl rfl rfl rfl rfl ⟨rfl, rfl, rfl, rfl, rfl⟩ rfl rfl rfl rfl rfl (by kernel_rfl) Tryd.func7 (by kernel_rfl)
    (of_decide_eq_true (by kernel_rfl)) (by unfold Func.isWrapper; rw [if_neg (of_decide_eq_false (by kernel_rfl))]; exact ⟨rfl, rfl⟩)
    (fun os started H enc _ => boxOrders_lifted os started H enc)
theorem boxOrders_card_holds : Rows.BoxOrdersCardSaid :=
  Claim7.holds_tied_plain_at .later [] [.data] true (true, "a630cb81813bce6fdc2c02e1f1d11ae64c88c5e42d75b5e6352f08bf4be0784b") false
    boxOrders_holds (fun _ h => by cases h) (by kernel_rfl) (fun _ h => by cases h) boxOrders_row_tie rfl ⟨rfl, rfl⟩ (by kernel_rfl) rfl
    (fun f fn hf hfn => by
      obtain rfl : f = 7 := Option.some.inj ((show Tryd.prog.funcNamed "cavalcade/cavalcadelaw13.BoxOrders" = some 7 by kernel_rfl).symm.trans hf) |>.symm
      obtain rfl : fn = Tryd.f7 := (Option.some.inj (Tryd.func7.symm.trans hfn)).symm
      exact ⟨by kernel_rfl, fun j t ht => by
        rw [Tryd.params7] at ht
        match j, ht with
        | 0, ht => obtain rfl : t = 34 := by simpa using ht.symm
                   exact (show Tryd.prog.wantsStandIn 34 = false by kernel_rfl)
        | 1, ht => obtain rfl : t = 34 := by simpa using ht.symm
                   exact (show Tryd.prog.wantsStandIn 34 = false by kernel_rfl)
        | j + 2, ht => simp at ht⟩)
    (by kernel_rfl)
end Go.Proofs.YtbeooeihedhabaaDoor
