/- cavalcaderef05.within, text, list: what the calls do. -/
import Derived.Test.YtbeooeihedhabaaDoorRdAll
import Derived.Test.YtbeooeihedhabaaDoorRPad

namespace Go.Proofs.YtbeooeihedhabaaDoor
open Go.RowKit
set_option maxHeartbeats 1000000
set_option maxRecDepth 4000
theorem rwithin5_any (n : Int) (w : World) : Calls Tryd.prog 44 #[.int .i64 n, .int .i64 1099511627776] w fun e w' => e = .returned (.bool (numOk n)) ∧ w' = w := by
  obtain ⟨g, hg⟩ : ∃ g, g = numOk n := ⟨_, rfl⟩
  rw [← hg]
  have HG := Lib.hid hg
  clear hg
  by_cases h0 : 0 ≤ n
  · have hd0 : decide ((0 : Int) ≤ n) = true := decide_eq_true h0
    by_cases h1 : n ≤ 1099511627776
    · have hd1 : decide (n ≤ (1099511627776 : Int)) = true := decide_eq_true h1
      obtain rfl : g = true := by rw [HG.out]; exact decide_eq_true ⟨h0, h1⟩
      clear h0 h1 HG
      go_enter Tryd.func44, Tryd.ntmps44
      go_wp2_with fail
      go_ret
      exact ⟨rfl, rfl⟩
    · have hd1 : decide (n ≤ (1099511627776 : Int)) = false := decide_eq_false h1
      obtain rfl : g = false := by rw [HG.out]; exact decide_eq_false (fun h => h1 h.2)
      clear h0 h1 HG
      go_enter Tryd.func44, Tryd.ntmps44
      go_wp2_with fail
      go_ret
      exact ⟨rfl, rfl⟩
  · have hd0 : decide ((0 : Int) ≤ n) = false := decide_eq_false h0
    obtain rfl : g = false := by rw [HG.out]; exact decide_eq_false (fun h => h0 h.1)
    clear h0 HG
    go_enter Tryd.func44, Tryd.ntmps44
    go_wp2_with fail
    go_ret
    exact ⟨rfl, rfl⟩
theorem rtext5_any (n : Int) (w : World) (h : 0 ≤ n) (h2 : n ≤ 9223372036854775807) : Calls Tryd.prog 45 #[.int .i64 n] w fun e w' => e = .returned (.string (numS n.toNat)) ∧ Below w.heap.size w w' := by
  go_enter Tryd.func45, Tryd.ntmps45
  go_wp2_with fail
  refine (rnumber_any n _ h h2).mono ?_
  rintro e w1 ⟨rfl, hb⟩
  have HB := Lib.hid hb
  clear hb
  go_wp2_with fail
  go_ret
  exact ⟨rfl, HB.out⟩
theorem rlist5_ok (v : Value) (ls : List ByteArray) (w : World) (hv : RdStrs w v ls) (hl : ls.length ≤ 1024) (ht : tot ls ≤ 65536) :
    Calls Tryd.prog 47 #[v] w fun e w' => e = .returned (.tuple #[.string (bstr (encList ls)), .int .i64 0]) ∧ Below w.heap.size w w' := by
  have HV := Lib.hid hv
  clear hv
  go_enter Tryd.func47, Tryd.ntmps47
  go_wp2_with fail
  refine (rlist_ok v ls _ HV.out hl ht).mono ?_
  rintro e w1 ⟨rfl, hb⟩
  have HB := Lib.hid hb
  clear hb
  go_wp2_with fail
  go_ret2
  exact ⟨rfl, HB.out⟩
end Go.Proofs.YtbeooeihedhabaaDoor
