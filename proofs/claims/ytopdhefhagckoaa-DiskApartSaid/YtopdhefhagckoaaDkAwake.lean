/- disk's law: awake: what the call does. -/
import Derived.Test.YtopdhefhagckoaaDkCrash
namespace Go.Proofs.Ytopdhefhagckoaa
open Go.RowKit Go.Maps
set_option maxHeartbeats 2000000
set_option maxRecDepth 4000
abbrev awF (s : List UInt8) (k : Nat) : DS := ⟨[⟨[97], bstr s, k⟩], none⟩
theorem aw_r1 : DS.new.append [97] ⟨#[120, 121]⟩ = (awF [120, 121] 0, 0) := by kernel_rfl
theorem aw_r2 : (awF [120, 121] 0).sync [97] = (awF [120, 121] 2, 0) := by kernel_rfl
theorem aw_r3 : (awF [120, 121] 2).append [97] ⟨#[122, 119]⟩ = (awF [120, 121, 122, 119] 2, 0) := by kernel_rfl
theorem aw_r4 : (awF [120, 121, 122, 119] 2).crash [1] = awF [120, 121, 122] 3 := by kernel_rfl
theorem aw_r5 : (awF [120, 121, 122] 3).look [97] = (⟨#[120, 121, 122]⟩, 3, 0) := by kernel_rfl
theorem awake_any (w : World) : Calls Try.prog 9 #[] w fun e w' => e = .returned (.bool true) ∧ Below w.heap.size w w' := by
  go_enter Try.func9, Try.ntmps9
  go_wp2_with fail
  refine (new_disk w.heap.size w w (Below.refl _ _) (Nat.le_refl _)).mono ?_
  rintro e w1 ⟨bd, bm, rfl, hD, -⟩
  have HC := Lib.hid (append_any w1 hD ⟨#[97]⟩ ⟨#[120, 121]⟩ (by decide) (by decide))
  rw [show ((stOf [] none).append (⟨#[97]⟩ : ByteArray).data.toList ⟨#[120, 121]⟩) = _ from aw_r1] at HC
  clear hD
  go_wp2_with fail
  refine HC.out.mono ?_
  rintro e w2 ⟨rfl, hT⟩
  obtain ⟨⟨p2, l2, hD, hS, -⟩, -⟩ := hT
  have HC := Lib.hid (sync_any w2 hD ⟨#[97]⟩ (by decide))
  rw [hS, show ((awF [120, 121] 0).sync (⟨#[97]⟩ : ByteArray).data.toList) = _ from aw_r2] at HC
  clear hD hS
  go_wp2_with fail
  refine HC.out.mono ?_
  rintro e w3 ⟨rfl, hT⟩
  obtain ⟨⟨p3, l3, hD, hS, -⟩, -⟩ := hT
  have HC := Lib.hid (append_any w3 hD ⟨#[97]⟩ ⟨#[122, 119]⟩ (by decide) (by decide))
  rw [hS, show ((awF [120, 121] 2).append (⟨#[97]⟩ : ByteArray).data.toList ⟨#[122, 119]⟩) = _ from aw_r3] at HC
  clear hD hS
  go_wp2_with fail
  refine HC.out.mono ?_
  rintro e w4 ⟨rfl, hT⟩
  obtain ⟨⟨p4, l4, hD, hS, -⟩, -⟩ := hT
  have HLT : Hid (∀ k, Its bd bm p4 k → k < w4.heap.size) := show ∀ k, _ from fun k => hD.its_lt
  have HD := Lib.hid hD
  have HS := Lib.hid hS
  clear hD hS
  go_wp2_with fail
  have hD5 := HD.out.next (bw_alloc (Below.refl _ _) (.cells #[.int .i64 1] 3))
  have HC := Lib.hid (crash_any _ hD5 _ [1] (RdIn.one w4 (.int .i64 1) 3 _ (fun hi => Nat.lt_irrefl _ (HLT.out _ hi))))
  rw [HS.out, aw_r4] at HC
  clear hD5
  refine HC.out.mono ?_
  rintro e w5 ⟨rfl, hT⟩
  obtain ⟨⟨p5, l5, hD, hS, -⟩, -⟩ := hT
  have HR := Lib.hid (read_any w5 hD ⟨#[97]⟩ (by decide))
  have HF := Lib.hid (safe_any w5 hD ⟨#[97]⟩ (by decide))
  rw [hS, show ((awF [120, 121, 122] 3).look (⟨#[97]⟩ : ByteArray).data.toList) = _ from aw_r5] at HR HF
  have HB := Lib.hid hD.below
  clear hD hS
  go_wp2_with fail
  refine HR.out.mono ?_
  rintro e w6 ⟨rfl, rfl⟩
  go_wp2_with fail
  refine HF.out.mono ?_
  rintro e w7 ⟨rfl, rfl⟩
  go_wp2_with fail
  go_ret
  exact ⟨rfl, HB.out⟩
end Go.Proofs.Ytopdhefhagckoaa
