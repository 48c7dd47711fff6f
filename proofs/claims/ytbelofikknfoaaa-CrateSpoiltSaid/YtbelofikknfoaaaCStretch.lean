/- runs.Pack's closure: what the call does. -/
import Derived.Test.YtbelofikknfoaaaCBuf
import Derived.Test.YtbelofikknfoaaaCSame
import Derived.Test.YtbelofikknfoaaaCReg
import Derived.Deep.RegionHeld3
namespace Go.Proofs.Ytbelofikknfoaaa
open Go.RowKit
set_option maxHeartbeats 2000000
set_option maxRecDepth 4000
theorem wp_appZ {o : Oper} {a : Act} {w : World} {K : Act → World → Prop} {Q : Exit → Act → World → Prop} (sl x : Operand) (tx : TypeId) (ho : o.op = .call { callee := .builtin .append, args := #[sl, x], argTypes := #[34, tx] }) (B : Nat) (v : Value) (xs : List UInt8) (hv : a.eval sl = v) (h : OwnZ B v xs w)
    (xv : Value) (hx : a.eval x = xv) (ys : List UInt8) (hs : Src Try.prog 1 tx xv ys.length (u8s ys) w) (hy : 0 < ys.length) (hl : xs.length + ys.length ≤ 140737488355328)
    (hK : ∀ v' w', OwnB B v' (xs ++ ys) w' → Below B w w' → K (a.put o.dst v') w') : o.wp Try.prog a w K Q := by
  obtain ⟨v', w', hr, h2, h3⟩ := run_appZ h hs hy hl o.type
  unfold Oper.wp execOp
  simp only [ho, resolve, invoke, builtin, Sem.run_bind, Sem.run_pure, Result.andThen_ok, List.map_toArray, List.map_cons, List.map_nil, hv, hx, hr]
  exact hK v' w' h2 h3
theorem byte_src {w : World} {W : World} {n : Int} {c : UInt8} {t : TypeId} (hn : n = (c.toNat : Int)) (h : W.heap[w.heap.size]? = some (.cells #[.int .u8 n] t (0, 0))) : Src Try.prog 1 34 (.slice (some ⟨w.heap.size, 0, none⟩) 1 1) [c].length (u8s [c]) W := by
  refine Src.ofSlice W Try.underlying34 ⟨w.heap.size, 0, none⟩ 1 1 (u8s [c]) rfl (fun j u hj => ?_) (u8s_one _)
  cases j with
  | zero =>
    simp [u8s] at hj
    subst hj hn
    show W.cell? ⟨w.heap.size, 0, none⟩ = _
    exact cell_of_one h
  | succ j => simp [u8s] at hj
theorem OwnB.set {B b i : Nat} {v : Value} {xs : List UInt8} {w : World} (h : OwnB B v xs w) (hb : b < B) (u : Value) : OwnB B v xs (w.setCell ⟨b, i, none⟩ u) := by
  obtain ⟨g, cap, rest, fr, hv, hg, hh, r⟩ := h
  exact ⟨g, cap, rest, fr, hv, hg, (heap_setCell_other _ _ _ _ (by show g ≠ b; omega)).trans hh, r⟩
theorem OwnZ.set {B b : Nat} {v : Value} {xs : List UInt8} {w : World} (h : OwnZ B v xs w) (hb : b < B) (i : Nat) (u : Value) : OwnZ B v xs (w.setCell ⟨b, i, none⟩ u) :=
  h.imp (fun ⟨h1, h2, h3⟩ => ⟨h1, h2, by simpa [World.setCell] using h3⟩) (fun h => h.set hb u)
/-- the closure's cells: from, out, the text -/
structure StAt (B : Nat) (W : World) (bf bo bs : Nat) (s : ByteArray) (F : Nat) (v : Value) (O : List UInt8) : Prop where
  f : W.heap[bf]? = some (.cells #[.int .i64 F] 3 (0, 0))
  o : W.heap[bo]? = some (.cells #[v] 34 (0, 0))
  s : W.heap[bs]? = some (.cells #[.string s] 9 (0, 0))
  own : OwnZ B v O W
  lo : bf < B ∧ bo < B ∧ bs < B
  ne : bf ≠ bo ∧ bf ≠ bs ∧ bo ≠ bs
structure StTurn (W W' : World) (B bf bo : Nat) : Prop where
  os : W'.os = W.os
  tape : W'.tape = W.tape
  output : W'.output = W.output
  size : W.heap.size ≤ W'.heap.size
  block : ∀ k, k < B → k ≠ bf → k ≠ bo → W'.heap[k]? = W.heap[k]?
theorem StAt.below {B : Nat} {W W' : World} {bf bo bs : Nat} {s : ByteArray} {F : Nat} {v : Value} {O : List UInt8} (h : StAt B W bf bo bs s F v O) (hb : Below W.heap.size W W') : StAt B W' bf bo bs s F v O :=
  ⟨keep_row hb h.f, keep_row hb h.o, keep_row hb h.s, h.own.below hb (Nat.le_refl _), h.lo, h.ne⟩
theorem stretch_any (B bf bo bs : Nat) (s : ByteArray) (F to : Nat) (v : Value) (O : List UInt8) (w : World) (hA : StAt B w bf bo bs s F v O) (hF : F ≤ to) (hto : to ≤ s.size) (h128 : to - F ≤ 128) (hs : s.size ≤ 1073741824) (hO : O.length ≤ 4294967296) :
    Calls Try.prog 36 #[.int .i64 to, .pointer (some ⟨bf, 0, none⟩), .pointer (some ⟨bo, 0, none⟩), .pointer (some ⟨bs, 0, none⟩)] w fun e w' => e = .returned (.tuple #[]) ∧ (∃ v', StAt B w' bf bo bs s to v' (if F < to then O ++ UInt8.ofNat (to - F - 1) :: ((s.data.toList.drop F).take (to - F)) else O)) ∧ StTurn w w' B bf bo := by
  have cf := cell_of_one hA.f
  have co := cell_of_one hA.o
  have cs := cell_of_one hA.s
  have HA := Lib.hid hA
  clear hA
  by_cases hlt : F < to
  · obtain ⟨d, hd0⟩ : ∃ d, to - F = d + 1 := ⟨to - F - 1, by omega⟩
    obtain ⟨k, hk⟩ : ∃ k, k = d + 1 := ⟨_, rfl⟩
    have e1 : IntKind.i64.wrap ((to : Int) - F) = (k : Int) := by rw [IntWalk.i64_in _ (by omega)]; omega
    have e2 : IntKind.i64.wrap ((k : Int) - 1) = (d : Int) := by rw [IntWalk.i64_in _ (by omega)]; omega
    have e3 : IntKind.u8.wrap (d : Int) = d := IntWalk.u8_in _ (by omega)
    have f0 : (0 : Int) ≤ F := by omega
    have f1 : (F : Int) ≤ to := by omega
    have f2 : (to : Int) ≤ s.size := by omega
    have HD := Lib.hid hd0
    have HC : Hid ((d : Int) = ((UInt8.ofNat d).toNat : Int)) := show _ = _ from by rw [UInt8.toNat_ofNat_of_lt' (show d < 256 by omega)]
    have hbA : Below B w (w.drew.alloc (.cells #[.int .u8 (d : Int)] 5)) := ((Below.refl _ _).drew).alloc HA.out.own.lt _
    have HBA := Lib.hid hbA
    have HOA := Lib.hid (HA.out.own.below ((Below.refl w.heap.size w).drew.alloc (Nat.le_refl _) (.cells #[.int .u8 (d : Int)] 5)) (Nat.le_refl _))
    have KEEP : Hid (∀ W, Below B w W → W.cell? ⟨bf, 0, none⟩ = some (.int .i64 F) ∧ W.cell? ⟨bs, 0, none⟩ = some (.string s)) := show ∀ W, _ from fun W hb => ⟨cell_of_one ((hb.block bf HA.out.lo.1).trans HA.out.f), cell_of_one ((hb.block bs HA.out.lo.2.2).trans HA.out.s)⟩
    have HSA := Lib.hid (KEEP.out _ hbA)
    have co1 : w.drew.cell? ⟨bo, 0, none⟩ = some v := co
    have co2 : (w.drew.alloc (.cells #[.int .u8 (d : Int)] 5)).cell? ⟨bo, 0, none⟩ = some v := cell_of_one ((hbA.block bo HA.out.lo.2.1).trans HA.out.o)
    have co3 : (w.alloc (.cells #[.int .u8 (d : Int)] 5)).cell? ⟨bo, 0, none⟩ = some v := co2
    have HXE : Hid ((s.extract F to).data.toList = (s.data.toList.drop F).take (to - F)) := show _ = _ from by rw [ByteArray.data_extract, Array.toList_extract]
    have HXL : Hid ((s.extract F to).data.toList.length = to - F) := show _ = _ from by
      have hl : s.data.toList.length = s.size := rfl
      rw [HXE.out, List.length_take, List.length_drop, hl]; omega
    have HDK := Lib.hid hk
    have hkb : d < 128 := by omega
    have HXP : Hid (0 < (s.extract F to).data.toList.length) := show _ < _ from by rw [HXL.out]; omega
    have hd : decide ((F : Int) < to) = true := decide_eq_true (by omega)
    have hdn : decide (F < to) = true := decide_eq_true hlt
    rw [if_pos hlt]
    rw [show to - F - 1 = d by omega]
    clear hk hd0
    go_enter Try.func36, Try.ntmps36
    go_wp2_with fail
    refine wp_region_held_drew (S := fun W => W.cell? ⟨bf, 0, none⟩ = some (.int .i64 F) ∧ W.cell? ⟨bs, 0, none⟩ = some (.string s)) (by kernel_rfl) ⟨cf, cs⟩ (fun _ => ?_)
    refine rg_gen (i := 1) (v := ?_) rfl (by kernel_rfl) (by kernel_rfl) (by kernel_rfl) (fun _ _ _ h => h) rfl (by rfl) ?_ (by assumption) ?_
    rotate_left
    · intro w hSw
      try dsimp only at hSw
      go_simp
      try with_reducible rfl
    try simp only [Act.put, List.setIfInBounds_toArray, List.set_cons_zero, List.set_cons_succ]
    refine rg_gen (i := 2) (v := ?_) rfl (by kernel_rfl) (by kernel_rfl) (by kernel_rfl) (fun _ _ _ h => h) rfl (by rfl) ?_ (by assumption) ?_
    rotate_left
    · intro w hSw
      try dsimp only at hSw
      go_simp
      try with_reducible rfl
    try simp only [Act.put, List.setIfInBounds_toArray, List.set_cons_zero, List.set_cons_succ]
    refine rg_gen (i := 3) (v := ?_) rfl (by kernel_rfl) (by kernel_rfl) (by kernel_rfl) (fun _ _ _ h => h) rfl (by rfl) ?_ (by assumption) ?_
    rotate_left
    · intro w hSw
      try dsimp only at hSw
      go_simp
      try with_reducible rfl
    try simp only [Act.put, List.setIfInBounds_toArray, List.set_cons_zero, List.set_cons_succ]
    refine rg_gen (i := 4) (v := ?_) rfl (by kernel_rfl) (by kernel_rfl) (by kernel_rfl) (fun _ _ _ h => h) rfl (by rfl) ?_ (by assumption) ?_
    rotate_left
    · intro w hSw
      try dsimp only at hSw
      go_simp
      try with_reducible rfl
    try simp only [Act.put, List.setIfInBounds_toArray, List.set_cons_zero, List.set_cons_succ]
    refine rg_gen (i := 5) (v := ?_) rfl (by kernel_rfl) (by kernel_rfl) (by kernel_rfl) (fun _ _ _ h => h) rfl (by rfl) ?_ (by assumption) ?_
    rotate_left
    · intro w hSw
      try dsimp only at hSw
      go_simp
      try with_reducible rfl
    try simp only [Act.put, List.setIfInBounds_toArray, List.set_cons_zero, List.set_cons_succ]
    refine rg_gen (i := 8) (v := ?_) rfl (by kernel_rfl) (by kernel_rfl) (by kernel_rfl) (fun _ _ _ h => h) rfl (by rfl) ?_ (by assumption) ?_
    rotate_left
    · intro w hSw
      try dsimp only at hSw
      go_simp
      try with_reducible rfl
    try simp only [Act.put, List.setIfInBounds_toArray, List.set_cons_zero, List.set_cons_succ]
    refine rg_gen (i := 9) (v := ?_) rfl (by kernel_rfl) (by kernel_rfl) (by kernel_rfl) (fun _ _ _ h => h) rfl (by rfl) ?_ (by assumption) ?_
    rotate_left
    · intro w hSw
      try dsimp only at hSw
      go_simp
      try with_reducible rfl
    try simp only [Act.put, List.setIfInBounds_toArray, List.set_cons_zero, List.set_cons_succ]
    refine rg_gen (i := 10) (v := ?_) rfl (by kernel_rfl) (by kernel_rfl) (by kernel_rfl) (fun _ _ _ h => h) rfl (by rfl) ?_ (by assumption) ?_
    rotate_left
    · intro w hSw
      try dsimp only at hSw
      go_simp
      try with_reducible rfl
    try simp only [Act.put, List.setIfInBounds_toArray, List.set_cons_zero, List.set_cons_succ]
    refine rg_gen (i := 11) (v := ?_) rfl (by kernel_rfl) (by kernel_rfl) (by kernel_rfl) (fun _ _ _ h => h) rfl (by rfl) ?_ (by assumption) ?_
    rotate_left
    · intro w hSw
      try dsimp only at hSw
      go_simp
      try with_reducible rfl
    try simp only [Act.put, List.setIfInBounds_toArray, List.set_cons_zero, List.set_cons_succ]
    refine wpAnyH_ready (rs := [0, 6]) (by kernel_rfl) (by simp) ?_
    refine AllReadyH.cons rfl (fun K hK => ?_) (AllReadyH.cons rfl (fun K hK => ?_) AllReadyH.nil)
    go_simp
    refine hK.out _ _ ⟨cf, cs⟩ (fun _ => ?_)
    clear hK K
    try simp only [Act.put, List.setIfInBounds_toArray, List.set_cons_zero, List.set_cons_succ]
    refine rg_one (i := 6) (by kernel_rfl) rfl (fun K hK => ?_)
    go_simp
    refine hK.out _ _ HSA.out (fun _ => ?_)
    clear hK K
    rotate_left
    go_simp
    refine hK.out _ _ HSA.out (fun _ => ?_)
    clear hK K
    try simp only [Act.put, List.setIfInBounds_toArray, List.set_cons_zero, List.set_cons_succ]
    refine rg_one (i := 0) (by kernel_rfl) rfl (fun K hK => ?_)
    go_simp
    refine hK.out _ _ HSA.out (fun _ => ?_)
    clear hK K
    all_goals
      try simp only [Act.put, List.setIfInBounds_toArray, List.set_cons_zero, List.set_cons_succ]
      refine rg_one (i := 7) (by kernel_rfl) rfl (fun K hK => ?_)
      rw [if_pos (by rfl)]
      refine wp_appZ (.tmp 8) (.tmp 14) 34 rfl B v O (by rfl) HOA.out _ (by rfl) [UInt8.ofNat d] (byte_src HC.out (heap_alloc_new w.drew _)) Nat.one_pos (by simp; omega) ?_
      intro v5 w5 hO5 hb5
      have HO5 : Hid (OwnZ B v5 (O ++ [UInt8.ofNat d]) w5) := show _ ∨ _ from .inr hO5
      have HB5 := Lib.hid (HBA.out.trans hb5)
      clear hO5 hb5
      refine hK.out _ _ (KEEP.out _ HB5.out) (fun _ => ?_)
      clear hK K
      try simp only [Act.put, List.setIfInBounds_toArray, List.set_cons_zero, List.set_cons_succ]
      refine rg_one (i := 12) (by kernel_rfl) rfl (fun K hK => ?_)
      rw [if_pos (by rfl)]
      refine wp_appZ (.tmp 15) (.tmp 19) 9 rfl B v5 (O ++ [UInt8.ofNat d]) (by rfl) HO5.out _ (by rfl) (s.extract F to).data.toList (Src.ofString w5 Try.underlying9 (s.extract F to)) HXP.out (by rw [HXL.out]; simp; omega) ?_
      intro v6 w6 hO6 hb6
      have HO6 : Hid (OwnZ B v6 (O ++ UInt8.ofNat d :: ((s.data.toList.drop F).take (to - F))) w6) := show _ ∨ _ from .inr (by rw [HXE.out, List.append_assoc] at hO6; exact hO6)
      have HB6 := Lib.hid (HB5.out.trans hb6)
      clear hO6 hb6 HO5 HB5
      obtain ⟨q6, n6, c6, rfl⟩ : ∃ q n c, v6 = .slice q n c := by
        obtain ⟨q, c, h⟩ := HO6.out.shape
        exact ⟨q, _, c, h⟩
      have co6 : w6.cell? ⟨bo, 0, none⟩ = some v := cell_of_one ((HB6.out.block bo HA.out.lo.2.1).trans HA.out.o)
      have cz6 : w6.frozen? ⟨bo, 0, none⟩ = false := frozen_of_row w6 bo 0 _ _ ((HB6.out.block bo HA.out.lo.2.1).trans HA.out.o)
      refine hK.out _ _ (KEEP.out _ HB6.out) (fun _ => ?_)
      clear hK K
      try simp only [Act.put, List.setIfInBounds_toArray, List.set_cons_zero, List.set_cons_succ]
      refine rg_one (i := 13) (by kernel_rfl) rfl (fun K hK => ?_)
      go_simp
      have hS6 : (w6.setCell ⟨bo, 0, none⟩ (.slice q6 n6 c6)).cell? ⟨bf, 0, none⟩ = some (.int .i64 F) ∧ (w6.setCell ⟨bo, 0, none⟩ (.slice q6 n6 c6)).cell? ⟨bs, 0, none⟩ = some (.string s) := by
        have h1 : (w6.setCell ⟨bo, 0, none⟩ (.slice q6 n6 c6)).heap[bf]? = w6.heap[bf]? := heap_setCell_other _ _ _ _ HA.out.ne.1
        have h2 : (w6.setCell ⟨bo, 0, none⟩ (.slice q6 n6 c6)).heap[bs]? = w6.heap[bs]? := heap_setCell_other _ _ _ _ (Ne.symm HA.out.ne.2.2)
        exact ⟨(World.cell?_of_block (a := ⟨bf, 0, none⟩) h1).trans (KEEP.out _ HB6.out).1, (World.cell?_of_block (a := ⟨bs, 0, none⟩) h2).trans (KEEP.out _ HB6.out).2⟩
      refine hK.out _ _ hS6 (fun _ => ?_)
      clear hK K
      refine wpAnyH_done (by kernel_rfl) ?_ _
      have hA6 : StAt B (w6.setCell ⟨bo, 0, none⟩ (.slice q6 n6 c6)) bf bo bs s F (.slice q6 n6 c6) (O ++ UInt8.ofNat d :: ((s.data.toList.drop F).take (to - F))) := by
        have ha := HA.out
        have hb := HB6.out
        refine ⟨(heap_setCell_other _ _ _ _ ha.ne.1).trans ((hb.block bf ha.lo.1).trans ha.f), set_row (i := 0) (cs := [v]) ((hb.block bo ha.lo.2.1).trans ha.o) (.slice q6 n6 c6), (heap_setCell_other _ _ _ _ (Ne.symm ha.ne.2.2)).trans ((hb.block bs ha.lo.2.2).trans ha.s), ?_, ha.lo, ha.ne⟩
        exact OwnZ.set HO6.out ha.lo.2.1 _ _
      have hT6 : StTurn w (w6.setCell ⟨bo, 0, none⟩ (.slice q6 n6 c6)) B bf bo := ⟨HB6.out.os, HB6.out.tape, HB6.out.output, Nat.le_trans HB6.out.size (by simp [World.setCell]), fun j hj _ h2 => (heap_setCell_other _ _ _ _ h2).trans (HB6.out.block j hj)⟩
      have HA6 := Lib.hid hA6
      have HT6 := Lib.hid hT6
      clear hA6 hT6 co6 cz6 HO6 HB6 co co1 co2 co3 hbA HBA HOA HSA cf cs KEEP
      generalize w6.setCell ⟨bo, 0, none⟩ (.slice q6 n6 c6) = W6 at *
      have cf6 := cell_of_one HA6.out.f
      have cz6 : W6.frozen? ⟨bf, 0, none⟩ = false := frozen_of_row W6 bf 0 _ _ HA6.out.f
      go_wp2_with fail
      go_end0
      refine ⟨rfl, ⟨.slice q6 n6 c6, ?_⟩, ?_⟩
      · have ha := HA6.out
        exact ⟨set_row (i := 0) (cs := [.int .i64 (F : Int)]) ha.f (.int .i64 (to : Int)), (heap_setCell_other _ _ _ _ (Ne.symm ha.ne.1)).trans ha.o, (heap_setCell_other _ _ _ _ (Ne.symm ha.ne.2.1)).trans ha.s, ha.own.set ha.lo.1 _ _, ha.lo, ha.ne⟩
      · exact ⟨HT6.out.os, HT6.out.tape, HT6.out.output, Nat.le_trans HT6.out.size (by simp [World.setCell]), fun j hj h1 h2 => (heap_setCell_other _ _ _ _ h1).trans (HT6.out.block j hj h1 h2)⟩
  · obtain rfl : F = to := by omega
    rw [if_neg (by omega)]
    have hd : decide ((F : Int) < F) = false := decide_eq_false (by omega)
    go_enter Try.func36, Try.ntmps36
    go_wp2_with fail
    go_end0
    exact ⟨rfl, ⟨v, HA.out⟩, ⟨rfl, rfl, rfl, Nat.le_refl _, fun _ _ _ _ => rfl⟩⟩
end Go.Proofs.Ytbelofikknfoaaa
