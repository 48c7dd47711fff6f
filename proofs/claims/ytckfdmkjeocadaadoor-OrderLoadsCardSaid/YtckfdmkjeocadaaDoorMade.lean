/- cavalcadelaw19.made: what the call does. -/
import Derived.Test.YtckfdmkjeocadaaDoorLawTime
import Derived.Test.YtckfdmkjeocadaaDoorReg
namespace Go.Proofs.YtckfdmkjeocadaaDoor
open Go.RowKit
set_option maxHeartbeats 4000000
set_option maxRecDepth 4000
/-- a call that the law lets a log do -/
structure ACT where
  kd : Int
  lt : Int
  body : ByteArray
  ld : Bool
  r : RC
structure ACT.wf (a : ACT) : Prop where
  kd : i64ok a.kd
  lt : i64ok a.lt
  body : a.body.size ≤ 140737488351232
  r : a.r.wf
def ACT.cells (a : ACT) : List Value := actQ a.kd a.lt a.body a.ld a.r
theorem ACT.cells_length {a : ACT} (h : a.wf) : a.cells.length = 72 := by
  have h2 := RC.cells_length h.r.prev h.r.hash
  simp [ACT.cells, actQ, h2]
theorem act_info {a : ACT} (h : a.wf) : (Tryd.prog.info? 71).map (·.size) = some a.cells.length := by rw [ACT.cells_length h]; kernel_rfl
/-- calls that are laid one behind the other -/
def ActsAt (W : World) (v : Value) (acts : List ACT) : Prop := ∃ q c, v = .slice q acts.length c ∧ (acts = [] ∨ ∃ b off, q = some ⟨b, off, none⟩ ∧ b < W.heap.size ∧ ∀ i (h : i < acts.length), W.rangeAt b (off + i * 72) (acts[i]'h).cells)
theorem range_below {W W' : World} {b o : Nat} {cs : List Value} (h : W.rangeAt b o cs) {B : Nat} (hb : Below B W W') (hB : b < B) : W'.rangeAt b o cs := fun j v hj => (hb.cell (show (⟨b, o + j, none⟩ : Addr).block < B from hB)).trans (h j v hj)
theorem timeOf_ok {rs : List RC} {lt : Int} (hl : i64ok lt) (hg : ∀ r ∈ rs, 0 ≤ r.time ∧ r.time ≤ 1099511627776) : i64ok (timeOf rs lt) := by
  unfold timeOf
  split
  · exact hl
  · rename_i r hr
    split
    · exact hl
    · have := hg r (List.mem_of_getElem? hr)
      have h1 := hl.1
      have h2 := hl.2
      constructor <;> omega
theorem chain_time {rs : List RC} (h : Chain rs) : ∀ r ∈ rs, 0 ≤ r.time ∧ r.time ≤ 1099511627776 := fun r hr => (RC.good_is (h.wf r hr)).2.1
theorem made_any (acts : List ACT) (v : Value) (w : World) (hA : ActsAt w v acts) (hwf : ∀ a ∈ acts, a.wf) (hR : RoundsAt w) :
    Calls Tryd.prog 39 #[v] w fun e w' => ∃ sv rs, e = .returned (.pointer (some ⟨w.heap.size, 0, none⟩)) ∧ LgAt w' (w.heap.size + 1) w.heap.size sv rs (cnt rs) ∧ Chain rs ∧ rs.length ≤ 40 ∧ Below w.heap.size w w' := by
  obtain ⟨q, c, rfl, hq⟩ := hA
  have HQ := Lib.hid hq
  have HWF := Lib.hid hwf
  have HR := Lib.hid hR
  obtain ⟨m, hm⟩ : ∃ m, m = acts.length := ⟨_, rfl⟩
  rw [← hm]
  have HM := Lib.hid hm
  clear hq hwf hR hm
  go_enter Tryd.func39, Tryd.ntmps39
  go_wp2_with fail
  refine (new_log _).mono ?_
  rintro e w1 ⟨rfl, hL1, hb1⟩
  have HL1 := Lib.hid hL1
  have HB1 := Lib.hid hb1
  clear hL1 hb1
  go_wp2_with fail
  go_loopw [4] (fun k wr => ∃ (j : Nat) (sv : Value) (rs : List RC), j ≤ 40 ∧ rs.length ≤ j ∧ k = .int .i64 j ∧ Hid (Chain rs) ∧ Hid (LgAt wr (w.heap.size + 1) w.heap.size sv rs (cnt rs)) ∧ Hid (Below w.heap.size w wr)) (fun k _ => 40 - (intOf k).toNat)
  case atStart => exact ⟨0, .slice none 0 0, [], by omega, by simp, rfl, Chain.nil, HL1, HB1⟩
  case round =>
    obtain ⟨j, sv, rs, hj, hrj, rfl, HC, HL, HB⟩ := hrel
    by_cases hlt : j < m
    · have hd0 : decide ((j : Int) < m) = true := decide_eq_true (by omega)
      by_cases h40 : j < 40
      · have hd1 : decide ((j : Int) < 40) = true := decide_eq_true (by omega)
        have hl2 : j < acts.length := by have := HM.out; omega
        rcases HQ.out with h | ⟨b, off, rfl, hbw, hat⟩
        · exact absurd hl2 (by rw [h]; simp)
        obtain ⟨a, ha⟩ : ∃ a, a = acts[j]'hl2 := ⟨_, rfl⟩
        have HAW : Hid a.wf := show _ from by rw [ha]; exact HWF.out _ (List.getElem_mem hl2)
        have HRG : Hid (w.rangeAt b (off + j * 72) a.cells) := show World.rangeAt _ _ _ _ from by rw [ha]; exact hat j hl2
        have c3 : wr.cell? ⟨b, off + j * 72 + 3, none⟩ = some (.bool a.ld) := range_below HRG.out HB.out hbw 3 _ rfl
        have KEEP : Hid (∀ W', Below w.heap.size w W' → (W'.rangeAt b (off + j * 72) a.cells ∧ W'.cell? ⟨b, off + j * 72, none⟩ = some (.int .i64 a.kd) ∧ W'.cell? ⟨b, off + j * 72 + 2, none⟩ = some (.string a.body))) := show ∀ W', _ from fun W' hb => ⟨range_below HRG.out hb hbw, range_below HRG.out hb hbw 0 _ rfl, range_below HRG.out hb hbw 2 _ rfl⟩
        have f0 : (0 : Int) ≤ j := by omega
        have f1 : (j : Int) < m := by omega
        clear hat hl2 ha HRG hlt
        cases hld : a.ld
        · rw [hld] at c3
          clear hld
          go_wp2_with fail
          have hu : Tryd.prog.underlying 71 = some _ := Tryd.underlying71
          have hwl := HL.out.lts.1
          refine wp_region_held_drew (S := fun W' => W'.rangeAt b (off + j * 72) a.cells ∧ W'.cell? ⟨b, off + j * 72, none⟩ = some (.int .i64 a.kd) ∧ W'.cell? ⟨b, off + j * 72 + 2, none⟩ = some (.string a.body)) (by kernel_rfl) (KEEP.out _ HB.out.drew) (fun hHeld => ?_)
          refine rg_gen (i := 0) (v := ?_) rfl (by kernel_rfl) (by kernel_rfl) (by kernel_rfl) (fun _ _ _ h => h) rfl (by rfl) ?_ (by assumption) ?_
          rotate_left
          · intro w hSw
            try dsimp only at hSw
            go_simp
            try with_reducible rfl
          try simp only [Act.put, List.setIfInBounds_toArray, List.set_cons_zero, List.set_cons_succ]
          refine rg_gen (i := 1) (v := ?_) rfl (by kernel_rfl) (by kernel_rfl) (by kernel_rfl) (fun _ _ _ h => h) rfl (by rfl) ?_ (by assumption) ?_
          rotate_left
          · intro w hSw
            try dsimp only at hSw
            go_simp
            try with_reducible rfl
          try simp only [Act.put, List.setIfInBounds_toArray, List.set_cons_zero, List.set_cons_succ]
          refine rg_gen (i := 2) (v := ?_) rfl (by kernel_rfl) (by kernel_rfl) (by kernel_rfl) (fun _ _ _ h => h) rfl (by rfl) ?_ (by assumption) ?_
          rotate_left
          · intro w hSw
            try dsimp only at hSw
            go_simp
            try with_reducible rfl
          try simp only [Act.put, List.setIfInBounds_toArray, List.set_cons_zero, List.set_cons_succ]
          refine rg_gen (i := 3) (v := ?_) rfl (by kernel_rfl) (by kernel_rfl) (by kernel_rfl) (fun _ _ _ h => h) rfl (by rfl) ?_ (by assumption) ?_
          rotate_left
          · intro w hSw
            try dsimp only at hSw
            go_simp
            try with_reducible rfl
          try simp only [Act.put, List.setIfInBounds_toArray, List.set_cons_zero, List.set_cons_succ]
          refine rg_gen (i := 4) (v := ?_) rfl (by kernel_rfl) (by kernel_rfl) (by kernel_rfl) (fun _ _ _ h => h) rfl (by rfl) ?_ (by assumption) ?_
          rotate_left
          · intro w hSw
            try dsimp only at hSw
            go_simp
            try with_reducible rfl
          try simp only [Act.put, List.setIfInBounds_toArray, List.set_cons_zero, List.set_cons_succ]
          refine rg_gen (i := 5) (v := ?_) rfl (by kernel_rfl) (by kernel_rfl) (by kernel_rfl) (fun _ _ _ h => h) rfl (by rfl) ?_ (by assumption) ?_
          rotate_left
          · intro w hSw
            try dsimp only at hSw
            go_simp
            try with_reducible rfl
          try simp only [Act.put, List.setIfInBounds_toArray, List.set_cons_zero, List.set_cons_succ]
          refine rg_gen (i := 6) (v := ?_) rfl (by kernel_rfl) (by kernel_rfl) (by kernel_rfl) (fun _ _ _ h => h) rfl (by rfl) ?_ (by assumption) ?_
          rotate_left
          · intro w hSw
            try dsimp only at hSw
            go_simp
            try with_reducible rfl
          try simp only [Act.put, List.setIfInBounds_toArray, List.set_cons_zero, List.set_cons_succ]
          refine rg_gen (i := 7) (v := ?_) rfl (by kernel_rfl) (by kernel_rfl) (by kernel_rfl) (fun _ _ _ h => h) rfl (by rfl) ?_ (by assumption) ?_
          rotate_left
          · intro w hSw
            try dsimp only at hSw
            go_simp
            try with_reducible rfl
          try simp only [Act.put, List.setIfInBounds_toArray, List.set_cons_zero, List.set_cons_succ]
          refine rg_gen (i := 8) (v := ?_) rfl (by kernel_rfl) (by kernel_rfl) (by kernel_rfl) (fun _ _ _ h => h) rfl (by rfl) ?_ (by assumption) ?_
          rotate_left
          · intro w hSw
            try dsimp only at hSw
            go_simp
            try with_reducible rfl
          try simp only [Act.put, List.setIfInBounds_toArray, List.set_cons_zero, List.set_cons_succ]
          refine rg_gen (i := 9) (v := ?_) rfl (by kernel_rfl) (by kernel_rfl) (by kernel_rfl) (fun _ _ _ h => h) rfl (by rfl) ?_ (by assumption) ?_
          rotate_left
          · intro w hSw
            try dsimp only at hSw
            go_simp
            try with_reducible rfl
          try simp only [Act.put, List.setIfInBounds_toArray, List.set_cons_zero, List.set_cons_succ]
          refine rg_gen (i := 10) (v := ?_) rfl (by kernel_rfl) (by kernel_rfl) (by kernel_rfl) (fun _ _ _ h => h) rfl (by rfl) ?_ (by assumption) ?_
          rotate_left
          · intro w hSw
            try dsimp only at hSw
            go_simp
            try with_reducible rfl
          try simp only [Act.put, List.setIfInBounds_toArray, List.set_cons_zero, List.set_cons_succ]
          refine rg_gen (i := 11) (v := ?_) rfl (by kernel_rfl) (by kernel_rfl) (by kernel_rfl) (fun _ _ _ h => h) rfl (by rfl) ?_ (by assumption) ?_
          rotate_left
          · intro w hSw
            try dsimp only at hSw
            go_simp
            try with_reducible rfl
          try simp only [Act.put, List.setIfInBounds_toArray, List.set_cons_zero, List.set_cons_succ]
          refine rg_gen (i := 13) (v := ?_) rfl (by kernel_rfl) (by kernel_rfl) (by kernel_rfl) (fun _ _ _ h => h) rfl (by rfl) ?_ (by assumption) ?_
          rotate_left
          · intro w hSw
            try dsimp only at hSw
            go_simp
            try with_reducible rfl
          try simp only [Act.put, List.setIfInBounds_toArray, List.set_cons_zero, List.set_cons_succ]
          refine rg_gen (i := 14) (v := ?_) rfl (by kernel_rfl) (by kernel_rfl) (by kernel_rfl) (fun _ _ _ h => h) rfl (by rfl) ?_ (by assumption) ?_
          rotate_left
          · intro w hSw
            try dsimp only at hSw
            go_simp
            try with_reducible rfl
          try simp only [Act.put, List.setIfInBounds_toArray, List.set_cons_zero, List.set_cons_succ]
          refine rg_gen (i := 15) (v := ?_) rfl (by kernel_rfl) (by kernel_rfl) (by kernel_rfl) (fun _ _ _ h => h) rfl (by rfl) ?_ (by assumption) ?_
          rotate_left
          · intro w hSw
            try dsimp only at hSw
            go_simp
            try with_reducible rfl
          try simp only [Act.put, List.setIfInBounds_toArray, List.set_cons_zero, List.set_cons_succ]
          refine rg_row (i := 16) rfl (by kernel_rfl) (by kernel_rfl) (by kernel_rfl) (fun _ _ _ _ h => h) rfl (by rfl) 71 (.tmp 41) rfl b (off + j * 72) a.cells rfl (fun W h => h.1) hu rfl (act_info HAW.out) (by assumption) ?_
          try simp only [Act.put, List.setIfInBounds_toArray, List.set_cons_zero, List.set_cons_succ]
          refine rg_one (i := 12) (by kernel_rfl) rfl (fun K hK => ?_)
          go_simp
          go_at_call 41
          have HLd := Lib.hid (HL.out.below (Below.refl _ _).drew)
          refine (lfrom_any _ _ _ rs _ 0 _ HLd.out hwl).mono ?_
          rintro e w2 ⟨⟨v2, rfl, hO2⟩, hb2⟩
          rw [from_zero] at hO2
          have hB2 := bw_call HB.out.drew hb2
          have HL2 := Lib.hid (HLd.out.below hb2)
          go_wp2_with fail
          refine hK.out _ _ (KEEP.out _ hB2) (fun hHeld2 => ?_)
          clear hK K
          try simp only [Act.put, List.setIfInBounds_toArray, List.set_cons_zero, List.set_cons_succ]
          refine rg_one (i := 17) (by kernel_rfl) rfl (fun K hK => ?_)
          go_simp
          go_at_call 51
          refine (ltime_any _ v2 rs a.kd a.lt a.body a.ld a.r _ hO2 HL.out.wf (chain_time HC.out) (by omega)).mono ?_
          rintro e w3 ⟨rfl, hb3⟩
          have hB3 := bw_call hB2 hb3
          have HL3 := Lib.hid (HL2.out.below hb3)
          have hwl3 := HL3.out.lts.1
          go_wp2_with fail
          refine hK.out _ _ (KEEP.out _ hB3) (fun hHeld3 => ?_)
          clear hK K hO2 hb2 hb3 hB2
          try simp only [Act.put, List.setIfInBounds_toArray, List.set_cons_zero, List.set_cons_succ]
          refine rg_one (i := 18) (by kernel_rfl) rfl (fun K hK => ?_)
          go_simp
          go_at_call 50
          refine (add_any (w.heap.size + 1) w.heap.size sv rs a.kd a.body (timeOf rs a.lt) _ HL3.out HAW.out.kd (timeOf_ok HAW.out.lt (chain_time HC.out)) HAW.out.body (HR.out.below hB3 HR.out.1) (by omega) hwl3).mono ?_
          rintro e w4 ⟨rfl, ⟨sv4, hL4, -⟩, hT4⟩
          have hB4 := hT4.below hB3 (Nat.le_refl _) (fun k hk => by have := own_blk HL3.out.own k hk; omega) hB3.size
          go_wp2_with fail
          refine hK.out _ _ (KEEP.out _ hB4) (fun hHeld4 => ?_)
          clear hK K
          refine wpAnyH_done (by kernel_rfl) ?_ _
          have HL4 := Lib.hid hL4
          have HB4 := Lib.hid hB4
          have hn4 := next_length rs a.kd (timeOf rs a.lt) a.body
          clear hHeld hHeld2 hHeld3 hHeld4 hL4 hT4 hB3 hB4 hwl hwl3 hu
          go_wp2_with fail
          go_roundw
          case rel => exact ⟨j + 1, sv4, _, by omega, by omega, by go_num, HC.out.next, HL4, HB4⟩
          case measure => simp [intOf]; omega
        · rw [hld] at c3
          clear hld
          go_wp2_with fail
          go_roundw
          case rel => exact ⟨j + 1, sv, rs, by omega, by omega, by go_num, HC, HL, HB⟩
          case measure => simp [intOf]; omega
      · have hd1 : decide ((j : Int) < 40) = false := decide_eq_false (by omega)
        go_wp2_with fail
        go_ret
        exact ⟨sv, rs, rfl, HL.out, HC.out, by omega, HB.out⟩
    · have hd0 : decide ((j : Int) < m) = false := decide_eq_false (by omega)
      go_wp2_with fail
      go_ret
      exact ⟨sv, rs, rfl, HL.out, HC.out, by omega, HB.out⟩
end Go.Proofs.YtckfdmkjeocadaaDoor
