/- runs.Pack's closure: what the call does. runs.Pack: what the call does. cavalcaderef06.three: what the call does. cavalcaderef06.Pack: what the call does. Two rows of bytes of one's own side by side: append tt1 the one leaves the other. -/
import Derived.Test.YtbeooeihedhabaaDoorCBuf
import Derived.Test.YtbeooeihedhabaaDoorCrB
import Derived.Test.YtbeooeihedhabaaDoorCReg
import Derived.Deep.RegionHeld3
import Derived.Deep.CutBlock
import Derived.Deep.DeepCutAuto
namespace Go.Proofs.YtbeooeihedhabaaDoor
open Go.RowKit
set_option maxHeartbeats 2000000
set_option maxRecDepth 4000
theorem wp_appZ {o : Oper} {a : Act} {w : World} {K : Act → World → Prop} {Q : Exit → Act → World → Prop} (sl x : Operand) (tx : TypeId) (ho : o.op = .call { callee := .builtin .append, args := #[sl, x], argTypes := #[48, tx] }) (B : Nat) (v : Value) (xs : List UInt8) (hv : a.eval sl = v) (h : OwnZ B v xs w)
    (xv : Value) (hx : a.eval x = xv) (ys : List UInt8) (hs : Src Tryd.prog 1 tx xv ys.length (u8s ys) w) (hy : 0 < ys.length) (hl : xs.length + ys.length ≤ 140737488355328)
    (hK : ∀ v' w', OwnB B v' (xs ++ ys) w' → Below B w w' → K (a.put o.dst v') w') : o.wp Tryd.prog a w K Q := by
  obtain ⟨v', w', hr, h2, h3⟩ := run_appZ h hs hy hl o.type
  unfold Oper.wp execOp
  simp only [ho, resolve, invoke, builtin, Sem.run_bind, Sem.run_pure, Result.andThen_ok, List.map_toArray, List.map_cons, List.map_nil, hv, hx, hr]
  exact hK v' w' h2 h3
theorem byte_src {w : World} {W : World} {n : Int} {c : UInt8} {t : TypeId} (hn : n = (c.toNat : Int)) (h : W.heap[w.heap.size]? = some (.cells #[.int .u8 n] t (0, 0))) : Src Tryd.prog 1 48 (.slice (some ⟨w.heap.size, 0, none⟩) 1 1) [c].length (u8s [c]) W := by
  refine Src.ofSlice W Tryd.underlying48 ⟨w.heap.size, 0, none⟩ 1 1 (u8s [c]) rfl (fun j u hj => ?_) (u8s_one _)
  cases j with
  | zero =>
    simp [u8s] at hj
    subst hj hn
    show W.cell? ⟨w.heap.size, 0, none⟩ = _
    exact cell_of_one h
  | succ j => simp [u8s] at hj
theorem OwnB.set {B b i : Nat} {v : Value} {xs : List UInt8} {w : World} (h : OwnB B v xs w) (hb : b < B) (u : Value) : OwnB B v xs (w.setCell ⟨b, i, none⟩ u) := by
  obtain ⟨g, cap, rest, fr, hv, hg, hh, r⟩ := h
  exact ⟨g, cap, rest, fr, hv, hg, (heap_setCell_other _ _ _ _ (by show g ≠ b; omega)).trans hh, r⟩
theorem OwnZ.set {B b : Nat} {v : Value} {xs : List UInt8} {w : World} (h : OwnZ B v xs w) (hb : b < B) (i : Nat) (u : Value) : OwnZ B v xs (w.setCell ⟨b, i, none⟩ u) :=
  h.imp (fun ⟨h1, h2, h3⟩ => ⟨h1, h2, by simpa [World.setCell] using h3⟩) (fun h => h.set hb u)
/-- the closure's cells: from, out, the text -/
structure StAt (B : Nat) (W : World) (bf bo bs : Nat) (s : ByteArray) (F : Nat) (v : Value) (O : List UInt8) : Prop where
  f : W.heap[bf]? = some (.cells #[.int .i64 F] 3 (0, 0))
  o : W.heap[bo]? = some (.cells #[v] 48 (0, 0))
  s : W.heap[bs]? = some (.cells #[.string s] 9 (0, 0))
  own : OwnZ B v O W
  lo : bf < B ∧ bo < B ∧ bs < B
  ne : bf ≠ bo ∧ bf ≠ bs ∧ bo ≠ bs
structure StTurn (W W' : World) (B bf bo : Nat) : Prop where
  os : W'.os = W.os
  tape : W'.tape = W.tape
  output : W'.output = W.output
  size : W.heap.size ≤ W'.heap.size
  block : ∀ k, k < B → k ≠ bf → k ≠ bo → W'.heap[k]? = W.heap[k]?
theorem StAt.below {B : Nat} {W W' : World} {bf bo bs : Nat} {s : ByteArray} {F : Nat} {v : Value} {O : List UInt8} (h : StAt B W bf bo bs s F v O) (hb : Below W.heap.size W W') : StAt B W' bf bo bs s F v O :=
  ⟨keep_row hb h.f, keep_row hb h.o, keep_row hb h.s, h.own.below hb (Nat.le_refl _), h.lo, h.ne⟩
theorem stretch_any (B bf bo bs : Nat) (s : ByteArray) (F tt1 : Nat) (v : Value) (O : List UInt8) (w : World) (hA : StAt B w bf bo bs s F v O) (hF : F ≤ tt1) (hto : tt1 ≤ s.size) (h128 : tt1 - F ≤ 128) (hs : s.size ≤ 1073741824) (hO : O.length ≤ 4294967296) :
    Calls Tryd.prog 90 #[.int .i64 tt1, .pointer (some ⟨bf, 0, none⟩), .pointer (some ⟨bo, 0, none⟩), .pointer (some ⟨bs, 0, none⟩)] w fun e w' => e = .returned (.tuple #[]) ∧ (∃ v', StAt B w' bf bo bs s tt1 v' (if F < tt1 then O ++ UInt8.ofNat (tt1 - F - 1) :: ((s.data.toList.drop F).take (tt1 - F)) else O)) ∧ StTurn w w' B bf bo := by
  have cf := cell_of_one hA.f
  have co := cell_of_one hA.o
  have cs := cell_of_one hA.s
  have HA := Lib.hid hA
  clear hA
  by_cases hlt : F < tt1
  · obtain ⟨d, hd0⟩ : ∃ d, tt1 - F = d + 1 := ⟨tt1 - F - 1, by omega⟩
    obtain ⟨k, hk⟩ : ∃ k, k = d + 1 := ⟨_, rfl⟩
    have e1 : IntKind.i64.wrap ((tt1 : Int) - F) = (k : Int) := by rw [IntWalk.i64_in _ (by omega)]; omega
    have e2 : IntKind.i64.wrap ((k : Int) - 1) = (d : Int) := by rw [IntWalk.i64_in _ (by omega)]; omega
    have e3 : IntKind.u8.wrap (d : Int) = d := IntWalk.u8_in _ (by omega)
    have f0 : (0 : Int) ≤ F := by omega
    have f1 : (F : Int) ≤ tt1 := by omega
    have f2 : (tt1 : Int) ≤ s.size := by omega
    have HD := Lib.hid hd0
    have HC : Hid ((d : Int) = ((UInt8.ofNat d).toNat : Int)) := show _ = _ from by rw [UInt8.toNat_ofNat_of_lt' (show d < 256 by omega)]
    have hbA : Below B w (w.drew.alloc (.cells #[.int .u8 (d : Int)] 5)) := ((Below.refl _ _).drew).alloc HA.out.own.lt _
    have HBA := Lib.hid hbA
    have HOA := Lib.hid (HA.out.own.below ((Below.refl w.heap.size w).drew.alloc (Nat.le_refl _) (.cells #[.int .u8 (d : Int)] 5)) (Nat.le_refl _))
    have KEEP : Hid (∀ W, Below B w W → W.cell? ⟨bf, 0, none⟩ = some (.int .i64 F) ∧ W.cell? ⟨bs, 0, none⟩ = some (.string s)) := show ∀ W, _ from fun W hb => ⟨cell_of_one ((hb.block bf HA.out.lo.1).trans HA.out.f), cell_of_one ((hb.block bs HA.out.lo.2.2).trans HA.out.s)⟩
    have HSA := Lib.hid (KEEP.out _ hbA)
    have co1 : w.drew.cell? ⟨bo, 0, none⟩ = some v := co
    have co2 : (w.drew.alloc (.cells #[.int .u8 (d : Int)] 5)).cell? ⟨bo, 0, none⟩ = some v := cell_of_one ((hbA.block bo HA.out.lo.2.1).trans HA.out.o)
    have co3 : (w.alloc (.cells #[.int .u8 (d : Int)] 5)).cell? ⟨bo, 0, none⟩ = some v := co2
    have HXE : Hid ((s.extract F tt1).data.toList = (s.data.toList.drop F).take (tt1 - F)) := show _ = _ from by rw [ByteArray.data_extract, Array.toList_extract]
    have HXL : Hid ((s.extract F tt1).data.toList.length = tt1 - F) := show _ = _ from by
      have hl : s.data.toList.length = s.size := rfl
      rw [HXE.out, List.length_take, List.length_drop, hl]; omega
    have HDK := Lib.hid hk
    have hkb : d < 128 := by omega
    have HXP : Hid (0 < (s.extract F tt1).data.toList.length) := show _ < _ from by rw [HXL.out]; omega
    have hd : decide ((F : Int) < tt1) = true := decide_eq_true (by omega)
    have hdn : decide (F < tt1) = true := decide_eq_true hlt
    rw [if_pos hlt]
    rw [show tt1 - F - 1 = d by omega]
    clear hk hd0
    go_enter Tryd.func90, Tryd.ntmps90
    go_wp2_with fail
    refine wp_region_held_drew (S := fun W => W.cell? ⟨bf, 0, none⟩ = some (.int .i64 F) ∧ W.cell? ⟨bs, 0, none⟩ = some (.string s)) (by kernel_rfl) ⟨cf, cs⟩ (fun _ => ?_)
    refine rg_gen (i := 1) (v := ?_) rfl (by kernel_rfl) (by kernel_rfl) (by kernel_rfl) (fun _ _ _ h => h) rfl (by rfl) ?_ (by assumption) ?_
    rotate_left
    · intro w hSw
      try dsimp only at hSw
      go_simp
      try with_reducible rfl
    try simp only [Act.put, List.setIfInBounds_toArray, List.set_cons_zero, List.set_cons_succ]
    refine rg_gen (i := 2) (v := ?_) rfl (by kernel_rfl) (by kernel_rfl) (by kernel_rfl) (fun _ _ _ h => h) rfl (by rfl) ?_ (by assumption) ?_
    rotate_left
    · intro w hSw
      try dsimp only at hSw
      go_simp
      try with_reducible rfl
    try simp only [Act.put, List.setIfInBounds_toArray, List.set_cons_zero, List.set_cons_succ]
    refine rg_gen (i := 3) (v := ?_) rfl (by kernel_rfl) (by kernel_rfl) (by kernel_rfl) (fun _ _ _ h => h) rfl (by rfl) ?_ (by assumption) ?_
    rotate_left
    · intro w hSw
      try dsimp only at hSw
      go_simp
      try with_reducible rfl
    try simp only [Act.put, List.setIfInBounds_toArray, List.set_cons_zero, List.set_cons_succ]
    refine rg_gen (i := 4) (v := ?_) rfl (by kernel_rfl) (by kernel_rfl) (by kernel_rfl) (fun _ _ _ h => h) rfl (by rfl) ?_ (by assumption) ?_
    rotate_left
    · intro w hSw
      try dsimp only at hSw
      go_simp
      try with_reducible rfl
    try simp only [Act.put, List.setIfInBounds_toArray, List.set_cons_zero, List.set_cons_succ]
    refine rg_gen (i := 5) (v := ?_) rfl (by kernel_rfl) (by kernel_rfl) (by kernel_rfl) (fun _ _ _ h => h) rfl (by rfl) ?_ (by assumption) ?_
    rotate_left
    · intro w hSw
      try dsimp only at hSw
      go_simp
      try with_reducible rfl
    try simp only [Act.put, List.setIfInBounds_toArray, List.set_cons_zero, List.set_cons_succ]
    refine rg_gen (i := 8) (v := ?_) rfl (by kernel_rfl) (by kernel_rfl) (by kernel_rfl) (fun _ _ _ h => h) rfl (by rfl) ?_ (by assumption) ?_
    rotate_left
    · intro w hSw
      try dsimp only at hSw
      go_simp
      try with_reducible rfl
    try simp only [Act.put, List.setIfInBounds_toArray, List.set_cons_zero, List.set_cons_succ]
    refine rg_gen (i := 9) (v := ?_) rfl (by kernel_rfl) (by kernel_rfl) (by kernel_rfl) (fun _ _ _ h => h) rfl (by rfl) ?_ (by assumption) ?_
    rotate_left
    · intro w hSw
      try dsimp only at hSw
      go_simp
      try with_reducible rfl
    try simp only [Act.put, List.setIfInBounds_toArray, List.set_cons_zero, List.set_cons_succ]
    refine rg_gen (i := 10) (v := ?_) rfl (by kernel_rfl) (by kernel_rfl) (by kernel_rfl) (fun _ _ _ h => h) rfl (by rfl) ?_ (by assumption) ?_
    rotate_left
    · intro w hSw
      try dsimp only at hSw
      go_simp
      try with_reducible rfl
    try simp only [Act.put, List.setIfInBounds_toArray, List.set_cons_zero, List.set_cons_succ]
    refine rg_gen (i := 11) (v := ?_) rfl (by kernel_rfl) (by kernel_rfl) (by kernel_rfl) (fun _ _ _ h => h) rfl (by rfl) ?_ (by assumption) ?_
    rotate_left
    · intro w hSw
      try dsimp only at hSw
      go_simp
      try with_reducible rfl
    try simp only [Act.put, List.setIfInBounds_toArray, List.set_cons_zero, List.set_cons_succ]
    refine wpAnyH_ready (rs := [0, 6]) (by kernel_rfl) (by simp) ?_
    refine AllReadyH.cons rfl (fun K hK => ?_) (AllReadyH.cons rfl (fun K hK => ?_) AllReadyH.nil)
    go_simp
    refine hK.out _ _ ⟨cf, cs⟩ (fun _ => ?_)
    clear hK K
    try simp only [Act.put, List.setIfInBounds_toArray, List.set_cons_zero, List.set_cons_succ]
    refine rg_one (i := 6) (by kernel_rfl) rfl (fun K hK => ?_)
    go_simp
    refine hK.out _ _ HSA.out (fun _ => ?_)
    clear hK K
    rotate_left
    go_simp
    refine hK.out _ _ HSA.out (fun _ => ?_)
    clear hK K
    try simp only [Act.put, List.setIfInBounds_toArray, List.set_cons_zero, List.set_cons_succ]
    refine rg_one (i := 0) (by kernel_rfl) rfl (fun K hK => ?_)
    go_simp
    refine hK.out _ _ HSA.out (fun _ => ?_)
    clear hK K
    all_goals
      try simp only [Act.put, List.setIfInBounds_toArray, List.set_cons_zero, List.set_cons_succ]
      refine rg_one (i := 7) (by kernel_rfl) rfl (fun K hK => ?_)
      rw [if_pos (by rfl)]
      refine wp_appZ (.tmp 8) (.tmp 14) 48 rfl B v O (by rfl) HOA.out _ (by rfl) [UInt8.ofNat d] (byte_src HC.out (heap_alloc_new w.drew _)) Nat.one_pos (by simp; omega) ?_
      intro v5 w5 hO5 hb5
      have HO5 : Hid (OwnZ B v5 (O ++ [UInt8.ofNat d]) w5) := show _ ∨ _ from .inr hO5
      have HB5 := Lib.hid (HBA.out.trans hb5)
      clear hO5 hb5
      refine hK.out _ _ (KEEP.out _ HB5.out) (fun _ => ?_)
      clear hK K
      try simp only [Act.put, List.setIfInBounds_toArray]
      refine rg_one (i := 12) (by kernel_rfl) rfl (fun K hK => ?_)
      rw [if_pos (by rfl)]
      refine wp_appZ (.tmp 15) (.tmp 19) 9 rfl B v5 (O ++ [UInt8.ofNat d]) (by rfl) HO5.out _ (by rfl) (s.extract F tt1).data.toList (Src.ofString w5 Tryd.underlying9 (s.extract F tt1)) HXP.out (by rw [HXL.out]; simp; omega) ?_
      intro v6 w6 hO6 hb6
      have HO6 : Hid (OwnZ B v6 (O ++ UInt8.ofNat d :: ((s.data.toList.drop F).take (tt1 - F))) w6) := show _ ∨ _ from .inr (by rw [HXE.out, List.append_assoc] at hO6; exact hO6)
      have HB6 := Lib.hid (HB5.out.trans hb6)
      clear hO6 hb6 HO5 HB5
      obtain ⟨q6, n6, c6, rfl⟩ : ∃ q n c, v6 = .slice q n c := by
        obtain ⟨q, c, h⟩ := HO6.out.shape
        exact ⟨q, _, c, h⟩
      have co6 : w6.cell? ⟨bo, 0, none⟩ = some v := cell_of_one ((HB6.out.block bo HA.out.lo.2.1).trans HA.out.o)
      have cz6 : w6.frozen? ⟨bo, 0, none⟩ = false := frozen_of_row w6 bo 0 _ _ ((HB6.out.block bo HA.out.lo.2.1).trans HA.out.o)
      refine hK.out _ _ (KEEP.out _ HB6.out) (fun _ => ?_)
      clear hK K
      try simp only [Act.put]
      refine rg_one (i := 13) (by kernel_rfl) rfl (fun K hK => ?_)
      go_simp
      have hS6 : (w6.setCell ⟨bo, 0, none⟩ (.slice q6 n6 c6)).cell? ⟨bf, 0, none⟩ = some (.int .i64 F) ∧ (w6.setCell ⟨bo, 0, none⟩ (.slice q6 n6 c6)).cell? ⟨bs, 0, none⟩ = some (.string s) := by
        have h1 : (w6.setCell ⟨bo, 0, none⟩ (.slice q6 n6 c6)).heap[bf]? = w6.heap[bf]? := heap_setCell_other _ _ _ _ HA.out.ne.1
        have h2 : (w6.setCell ⟨bo, 0, none⟩ (.slice q6 n6 c6)).heap[bs]? = w6.heap[bs]? := heap_setCell_other _ _ _ _ (Ne.symm HA.out.ne.2.2)
        exact ⟨(World.cell?_of_block (a := ⟨bf, 0, none⟩) h1).trans (KEEP.out _ HB6.out).1, (World.cell?_of_block (a := ⟨bs, 0, none⟩) h2).trans (KEEP.out _ HB6.out).2⟩
      refine hK.out _ _ hS6 (fun _ => ?_)
      clear hK K
      refine wpAnyH_done (by kernel_rfl) ?_ _
      have hA6 : StAt B (w6.setCell ⟨bo, 0, none⟩ (.slice q6 n6 c6)) bf bo bs s F (.slice q6 n6 c6) (O ++ UInt8.ofNat d :: ((s.data.toList.drop F).take (tt1 - F))) := by
        have ha := HA.out
        have hb := HB6.out
        refine ⟨(heap_setCell_other _ _ _ _ ha.ne.1).trans ((hb.block bf ha.lo.1).trans ha.f), set_row (i := 0) (cs := [v]) ((hb.block bo ha.lo.2.1).trans ha.o) (.slice q6 n6 c6), (heap_setCell_other _ _ _ _ (Ne.symm ha.ne.2.2)).trans ((hb.block bs ha.lo.2.2).trans ha.s), ?_, ha.lo, ha.ne⟩
        exact OwnZ.set HO6.out ha.lo.2.1 _ _
      have hT6 : StTurn w (w6.setCell ⟨bo, 0, none⟩ (.slice q6 n6 c6)) B bf bo := ⟨HB6.out.os, HB6.out.tape, HB6.out.output, Nat.le_trans HB6.out.size (by simp [World.setCell]), fun j hj _ h2 => (heap_setCell_other _ _ _ _ h2).trans (HB6.out.block j hj)⟩
      have HA6 := Lib.hid hA6
      have HT6 := Lib.hid hT6
      clear hA6 hT6 co6 cz6 HO6 HB6 co co1 co2 co3 hbA HBA HOA HSA cf cs KEEP
      generalize w6.setCell ⟨bo, 0, none⟩ (.slice q6 n6 c6) = W6 at *
      have cf6 := cell_of_one HA6.out.f
      have cz6 : W6.frozen? ⟨bf, 0, none⟩ = false := frozen_of_row W6 bf 0 _ _ HA6.out.f
      go_wp2_with fail
      go_end0
      refine ⟨rfl, ⟨.slice q6 n6 c6, ?_⟩, ?_⟩
      · have ha := HA6.out
        exact ⟨set_row (i := 0) (cs := [.int .i64 (F : Int)]) ha.f (.int .i64 (tt1 : Int)), (heap_setCell_other _ _ _ _ (Ne.symm ha.ne.1)).trans ha.o, (heap_setCell_other _ _ _ _ (Ne.symm ha.ne.2.1)).trans ha.s, ha.own.set ha.lo.1 _ _, ha.lo, ha.ne⟩
      · exact ⟨HT6.out.os, HT6.out.tape, HT6.out.output, Nat.le_trans HT6.out.size (by simp [World.setCell]), fun j hj h1 h2 => (heap_setCell_other _ _ _ _ h1).trans (HT6.out.block j hj h1 h2)⟩
  · obtain rfl : F = tt1 := by omega
    rw [if_neg (by omega)]
    have hd : decide ((F : Int) < F) = false := decide_eq_false (by omega)
    go_enter Tryd.func90, Tryd.ntmps90
    go_wp2_with fail
    go_end0
    exact ⟨rfl, ⟨v, HA.out⟩, ⟨rfl, rfl, rfl, Nat.le_refl _, fun _ _ _ _ => rfl⟩⟩
open Go.RowKit
set_option maxHeartbeats 4000000
set_option maxRecDepth 4000
theorem rpack_length : ∀ (f : Nat) (l : List UInt8), (rpack f l).length ≤ 2 * l.length
  | 0, _ => by simp [rpack]
  | f + 1, [] => by simp [rpack]
  | f + 1, c :: l => by
    unfold rpack
    by_cases h : three (c :: l) = true
    · rw [if_pos h]
      have h1 : 0 < runN c 130 (c :: l) := runN_pos c 129 l
      have h2 := (runN_le c 130 (c :: l)).2
      have ih := rpack_length f ((c :: l).drop (runN c 130 (c :: l)))
      rw [List.length_drop] at ih
      simp only [List.length_cons] at ih h2 ⊢
      omega
    · rw [if_neg h]
      have h1 : 0 < litN 128 (c :: l) := litN_pos (k := 127) (show three (c :: l) = false by simpa using h)
      have h2 := (litN_le 128 (c :: l)).2
      have ih := rpack_length f ((c :: l).drop (litN 128 (c :: l)))
      rw [List.length_drop] at ih
      simp only [List.length_cons, List.length_append, List.length_take] at ih h2 ⊢
      omega
theorem rpk_length (l : List UInt8) : (rpk l).length ≤ 2 * l.length := rpack_length _ _
theorem three_runN (c : UInt8) (l : List UInt8) : three (c :: l) = decide (3 ≤ runN c 130 (c :: l)) := by
  match l with
  | [] => simp [three, runN]
  | [b] =>
    simp only [three, runN, if_true]
    split <;> simp
  | b :: d :: r =>
    simp only [three, runN, if_true]
    by_cases h1 : b = c
    · subst h1
      by_cases h2 : d = b
      · subst h2
        simp
      · have h3 : ¬ b = d := fun h => h2 h.symm
        simp [h2, h3]
    · have h3 : ¬ c = b := fun h => h1 h.symm
      simp [h1, h3]
theorem drop_at {s : ByteArray} {a : Nat} (h : a < s.size) : s.data.toList.drop a = s[a]'h :: s.data.toList.drop (a + 1) := by
  have hl : s.data.toList.length = s.size := rfl
  rw [List.drop_eq_getElem_cons (show a < s.data.toList.length by rw [hl]; exact h)]
  rfl
theorem sameN_le {s : ByteArray} {a : Nat} (h : a < s.size) : 1 ≤ sameN s a ∧ sameN s a ≤ 130 ∧ a + sameN s a ≤ s.size := by
  have hl : s.data.toList.length = s.size := rfl
  rw [sameN, dif_pos h]
  have h1 := runN_le (s[a]'h) 130 (s.data.toList.drop a)
  have h2 : 0 < runN (s[a]'h) 130 (s.data.toList.drop a) := by rw [drop_at h]; exact runN_pos _ 129 _
  rw [List.length_drop, hl] at h1
  omega
theorem three_same {s : ByteArray} {a : Nat} (h : a < s.size) : three (s.data.toList.drop a) = decide (3 ≤ sameN s a) := by
  rw [sameN, dif_pos h, drop_at h]
  exact three_runN _ _
theorem rpk_run_at {s : ByteArray} {a : Nat} (h : a < s.size) (h3 : 3 ≤ sameN s a) : rpk (s.data.toList.drop a) = UInt8.ofNat (125 + sameN s a) :: s[a]'h :: rpk (s.data.toList.drop (a + sameN s a)) := by
  have h4 := three_same h
  rw [decide_eq_true h3] at h4
  have hN : sameN s a = runN (s[a]'h) 130 (s.data.toList.drop a) := by rw [sameN, dif_pos h]
  rw [drop_at h] at h4 hN ⊢
  rw [rpk_run h4, ← hN, ← drop_at h, List.drop_drop]
theorem StTurn.below {W W' w : World} {B bf bo : Nat} (h : StTurn W W' B bf bo) (hb : Below w.heap.size w W) (h1 : w.heap.size ≤ bf) (h2 : w.heap.size ≤ bo) (h3 : w.heap.size ≤ B) : Below w.heap.size w W' :=
  hb.trans ⟨h.os, h.tape, h.output, h.size, fun k hk => h.block k (by omega) (by omega) (by omega)⟩
theorem byte_src2 {w W : World} {n m : Int} {c d : UInt8} {t : TypeId} (hn : n = (c.toNat : Int)) (hm : m = (d.toNat : Int)) (h : W.heap[w.heap.size]? = some (.cells #[.int .u8 n, .int .u8 m] t (0, 0))) : Src Tryd.prog 1 48 (.slice (some ⟨w.heap.size, 0, none⟩) 2 2) [c, d].length (u8s [c, d]) W := by
  refine Src.ofSlice W Tryd.underlying48 ⟨w.heap.size, 0, none⟩ 2 2 (u8s [c, d]) rfl (fun j u hj => ?_) (u8s_one _)
  subst hn hm
  have hadd : (⟨w.heap.size, 0, none⟩ : Addr).add j = ⟨w.heap.size, j, none⟩ := by unfold Addr.add; split <;> simp_all
  have h2 : W.heap[w.heap.size]? = some (.cells (u8s [c, d]).toArray t (0, 0)) := h
  rw [hadd, cell_of_row W w.heap.size j _ _ _ h2, List.getElem?_toArray]
  exact hj
theorem OwnZ.conv {B : Nat} {v : Value} {xs : List UInt8} {w : World} (h : OwnZ B v xs w) : (convert 48 9 v).run Tryd.prog w = .ok (.string (bstr xs)) w := by
  rcases h with ⟨rfl, rfl, _⟩ | h
  · kernel_rfl
  · exact h.conv
theorem rpack_any (s : ByteArray) (w : World) (hs : s.size ≤ 65536) :
    Calls Tryd.prog 83 #[.string s] w fun e w' => e = .returned (.string (bstr (rpk s.data.toList))) ∧ Below w.heap.size w w' := by
  obtain ⟨L, hL⟩ : ∃ L, L = s.data.toList := ⟨_, rfl⟩
  have HL := Lib.hid hL
  have HLL : Hid (L.length = s.size) := show _ = _ from by rw [hL]; rfl
  have HTH : Hid (∀ a (h : a < s.size), three (L.drop a) = decide (3 ≤ sameN s a)) := show ∀ a, _ from fun a h => by rw [hL]; exact three_same h
  have HRUN : Hid (∀ a (h : a < s.size), 3 ≤ sameN s a → rpk (L.drop a) = UInt8.ofNat (125 + sameN s a) :: s[a]'h :: rpk (L.drop (a + sameN s a))) := show ∀ a, _ from fun a h h3 => by rw [hL]; exact rpk_run_at h h3
  rw [← hL]
  have HST : Hid (∀ (B bf bo bs F tt1 : Nat) (v : Value) (O : List UInt8) (W : World), StAt B W bf bo bs s F v O → F ≤ tt1 → tt1 ≤ s.size → tt1 - F ≤ 128 → O.length ≤ 4294967296 → Calls Tryd.prog 90 #[.int .i64 tt1, .pointer (some ⟨bf, 0, none⟩), .pointer (some ⟨bo, 0, none⟩), .pointer (some ⟨bs, 0, none⟩)] W fun e w' => e = .returned (.tuple #[]) ∧ (∃ v', StAt B w' bf bo bs s tt1 v' (if F < tt1 then O ++ UInt8.ofNat (tt1 - F - 1) :: ((L.drop F).take (tt1 - F)) else O)) ∧ StTurn W w' B bf bo) := show ∀ B, _ from fun B bf bo bs F tt1 v O W h1 h2 h3 h4 h5 => by
    rw [hL]
    exact stretch_any B bf bo bs s F tt1 v O W h1 h2 h3 h4 (by omega) h5
  have hA0 : StAt (w.heap.size + 1 + 1 + 1) (((w.alloc (.cells #[.string s] 9)).alloc (.cells #[.slice none 0 0] 48)).alloc (.cells #[.int .i64 0] 3)) (w.heap.size + 1 + 1) (w.heap.size + 1) w.heap.size s 0 (.slice none 0 0) [] := by
    have h1 : ((w.alloc (.cells #[.string s] 9)).alloc (.cells #[.slice none 0 0] 48)).heap.size = w.heap.size + 1 + 1 := by simp
    have h2 : (w.alloc (.cells #[.string s] 9)).heap.size = w.heap.size + 1 := by simp
    refine ⟨?_, ?_, ?_, .inl ⟨rfl, rfl, by simp⟩, by omega, by omega⟩
    · rw [← h1]; exact heap_alloc_new _ _
    · rw [← h2]; exact (Below.heap_alloc _ _ _ (by simp)).trans (heap_alloc_new _ _)
    · exact (Below.heap_alloc _ _ _ (by simp; omega)).trans ((Below.heap_alloc _ _ _ (by simp)).trans (heap_alloc_new _ _))
  have HA0 := Lib.hid hA0
  have HB0 := Lib.hid (bw_alloc (bw_alloc (bw_alloc (Below.refl w.heap.size w) (.cells #[.string s] 9)) (.cells #[.slice none 0 0] 48)) (.cells #[.int .i64 0] 3))
  clear hL hA0
  go_enter Tryd.func83, Tryd.ntmps83
  go_wp2_with fail
  generalize ((w.alloc (.cells #[.string s] 9)).alloc (.cells #[.slice none 0 0] 48)).alloc (.cells #[.int .i64 0] 3) = w0 at *
  obtain ⟨bf, hbf⟩ : ∃ y, y = w.heap.size + 1 + 1 := ⟨_, rfl⟩
  obtain ⟨bo, hbo⟩ : ∃ y, y = w.heap.size + 1 := ⟨_, rfl⟩
  rw [← hbf, ← hbo] at HA0
  rw [← hbf, ← hbo]
  have hlo : w.heap.size ≤ bf ∧ w.heap.size ≤ bo ∧ w.heap.size ≤ bf + 1 := by omega
  clear hbf hbo
  go_loopw [6, 7] (fun at_ n wr => ∃ (a F : Nat) (v : Value) (O : List UInt8), a ≤ s.size ∧ F ≤ a ∧ a - F ≤ 127 ∧ at_ = .int .i64 a ∧ Hid (∀ j, F ≤ j → j < a → three (L.drop j) = false) ∧ Hid (O ++ rpk (L.drop F) = rpk L) ∧ Hid (StAt (bf + 1) wr bf bo w.heap.size s F v O) ∧ Hid (Below w.heap.size w wr)) (fun at_ _ _ => s.size - (intOf at_).toNat)
  case atStart => exact ⟨0, 0, .slice none 0 0, [], by omega, by omega, by omega, rfl, show ∀ j, _ from fun j h1 h2 => absurd h2 (by omega), show _ = _ from rfl, HA0, HB0⟩
  case round =>
    obtain ⟨a, F, v, O, ha, hFa, h127, rfl, HNO, HEQ, HA, HB⟩ := hrel
    have cs := cell_of_one HA.out.s
    have hOl : O.length ≤ 4294967296 := by
      have h1 := congrArg List.length HEQ.out
      have h2 := rpk_length L
      rw [List.length_append] at h1
      have := HLL.out
      omega
    by_cases hlt : a < s.size
    · have f0 : (0 : Int) ≤ a := by omega
      have f1 : (a : Int) < s.size := by omega
      go_wp2_with fail
      refine (same_any s a _ (by omega) hlt).mono ?_
      rintro e w1 ⟨rfl, hb1⟩
      have HA1 := Lib.hid (HA.out.below hb1)
      have HB1 := Lib.hid (bw_call HB.out hb1)
      have hN := sameN_le hlt
      have HTA := Lib.hid (HTH.out a hlt)
      have HRA := Lib.hid (HRUN.out a hlt)
      obtain ⟨N, hNN⟩ : ∃ N, N = sameN s a := ⟨_, rfl⟩
      rw [← hNN] at hN HTA HRA ⊢
      clear hNN hb1 cs
      have cf := cell_of_one HA1.out.f
      by_cases h3 : N < 3
      · have d1 : decide ((N : Int) < 3) = true := decide_eq_true (by omega)
        have HNO2 : Hid (∀ j, F ≤ j → j < a + 1 → three (L.drop j) = false) := show ∀ j, _ from fun j h1 h2 => by
          rcases Nat.lt_succ_iff_lt_or_eq.1 h2 with h4 | h4
          · exact HNO.out j h1 h4
          · subst h4
            rw [HTA.out, decide_eq_false (by omega)]
        have e1 : IntKind.i64.wrap ((a : Int) + 1) = ((a + 1 : Nat) : Int) := by rw [IntWalk.i64_in _ (by omega)]; omega
        obtain ⟨k, hk⟩ : ∃ k, k = a + 1 - F := ⟨_, rfl⟩
        have e3 : IntKind.i64.wrap ((a : Int) + 1 - F) = (k : Int) := by rw [IntWalk.i64_in _ (by omega)]; omega
        by_cases h128 : k = 128
        · have e4 : ((k : Int) == 128) = true := by simp; omega
          have HEQ2 : Hid ((O ++ UInt8.ofNat (a + 1 - F - 1) :: ((L.drop F).take (a + 1 - F))) ++ rpk (L.drop (a + 1)) = rpk L) := show _ = _ from by
            rw [← HEQ.out, rpk_stretch (s := L) (f := F) (a := a + 1) (by omega) (by have := HLL.out; omega) (by omega) HNO2.out (.inl (by omega)), List.append_assoc, List.cons_append]
          go_wp2_with fail
          rw [show (a : Int) + 1 = ((a + 1 : Nat) : Int) by omega]
          refine (HST.out (bf + 1) bf bo w.heap.size F (a + 1) v O _ HA1.out (by omega) (by omega) (by omega) hOl).mono ?_
          rintro e w2 ⟨rfl, ⟨v2, hA2⟩, hT2⟩
          rw [if_pos (by omega)] at hA2
          have HA2 := Lib.hid hA2
          have HB2 := Lib.hid (hT2.below HB1.out hlo.1 hlo.2.1 hlo.2.2)
          clear hA2 hT2 hk e3 e4 cf
          go_wp2_with fail
          go_roundw
          case rel => exact ⟨a + 1, a + 1, v2, _, by omega, by omega, by omega, by go_num, show ∀ j, _ from fun j h1 h2 => absurd h2 (by omega), HEQ2, HA2, HB2⟩
          case measure => simp [intOf]; omega
        · have e4 : ((k : Int) == 128) = false := by rw [beq_eq_false_iff_ne]; omega
          go_wp2_with fail
          go_roundw
          case rel => exact ⟨a + 1, F, v, O, by omega, by omega, by omega, by go_num, HNO2, HEQ, HA1, HB1⟩
          case measure => simp [intOf]; omega
      · have d1 : decide ((N : Int) < 3) = false := decide_eq_false (by omega)
        go_wp2_with fail
        refine (HST.out (bf + 1) bf bo w.heap.size F a v O _ HA1.out hFa ha (by omega) hOl).mono ?_
        rintro e w2 ⟨rfl, ⟨v2, hA2⟩, hT2⟩
        have HEQ2 : Hid ((if F < a then O ++ UInt8.ofNat (a - F - 1) :: ((L.drop F).take (a - F)) else O) ++ rpk (L.drop a) = rpk L) := show _ = _ from by
          by_cases hFa2 : F < a
          · rw [if_pos hFa2, ← HEQ.out, rpk_stretch (s := L) (f := F) (a := a) hFa2 (by have := HLL.out; omega) (by omega) HNO.out (.inr (.inr (by rw [HTA.out, decide_eq_true (by omega)]))), List.append_assoc, List.cons_append]
          · obtain rfl : F = a := by omega
            rw [if_neg hFa2]
            exact HEQ.out
        generalize (if F < a then O ++ UInt8.ofNat (a - F - 1) :: ((L.drop F).take (a - F)) else O) = O2 at *
        have HA2 := Lib.hid hA2
        have HB2 := Lib.hid (hT2.below HB1.out hlo.1 hlo.2.1 hlo.2.2)
        clear hA2 hT2 cf
        have cs2 := cell_of_one HA2.out.s
        have co2 := cell_of_one HA2.out.o
        have hO2 : O2.length ≤ 4294967296 := by
          have h1 := congrArg List.length HEQ2.out
          have h2 := rpk_length L
          rw [List.length_append] at h1
          have := HLL.out
          omega
        obtain ⟨M, hM⟩ : ∃ M, M = 125 + N := ⟨_, rfl⟩
        have e5 : IntKind.i64.wrap ((N : Int) + 125) = (M : Int) := by rw [IntWalk.i64_in _ (by omega)]; omega
        have e6 : IntKind.u8.wrap (M : Int) = M := IntWalk.u8_in _ (by omega)
        have hcb := byte_lt (s[a]'hlt)
        have HMC : Hid ((M : Int) = ((UInt8.ofNat M).toNat : Int)) := show _ = _ from by rw [UInt8.toNat_ofNat_of_lt' (show M < 256 by omega)]
        have HRA2 : Hid (rpk (L.drop a) = UInt8.ofNat M :: s[a]'hlt :: rpk (L.drop (a + N))) := show _ = _ from by rw [hM]; exact HRA.out (by omega)
        have HN := Lib.hid hN
        have hbA : Below (bf + 1) w2 (w2.drew.alloc (.cells #[.int .u8 (M : Int), .int .u8 ((s[a]'hlt).toNat : Int)] 5)) := ((Below.refl _ _).drew).alloc HA2.out.own.lt _
        have HBA := Lib.hid hbA
        have HOA := Lib.hid (HA2.out.own.below ((Below.refl w2.heap.size w2).drew.alloc (Nat.le_refl _) (.cells #[.int .u8 (M : Int), .int .u8 ((s[a]'hlt).toNat : Int)] 5)) (Nat.le_refl _))
        have KEEP : Hid (∀ W, Below (bf + 1) w2 W → W.cell? ⟨w.heap.size, 0, none⟩ = some (.string s)) := show ∀ W, _ from fun W hb => cell_of_one ((hb.block w.heap.size HA2.out.lo.2.2).trans HA2.out.s)
        have HSA := Lib.hid (KEEP.out _ hbA)
        have co3 : w2.drew.cell? ⟨bo, 0, none⟩ = some v2 := co2
        have co4 : (w2.drew.alloc (.cells #[.int .u8 (M : Int), .int .u8 ((s[a]'hlt).toNat : Int)] 5)).cell? ⟨bo, 0, none⟩ = some v2 := cell_of_one ((hbA.block bo HA2.out.lo.2.1).trans HA2.out.o)
        have co5 : (w2.alloc (.cells #[.int .u8 (M : Int), .int .u8 ((s[a]'hlt).toNat : Int)] 5)).cell? ⟨bo, 0, none⟩ = some v2 := co4
        clear hM hN HRA HTA
        go_wp2_with fail
        refine wp_region_held_drew (S := fun W => W.cell? ⟨w.heap.size, 0, none⟩ = some (.string s)) (by kernel_rfl) cs2 (fun _ => ?_)
        refine rg_gen (i := 1) (v := ?_) rfl (by kernel_rfl) (by kernel_rfl) (by kernel_rfl) (fun _ _ _ h => h) rfl (by rfl) ?_ (by assumption) ?_
        rotate_left
        · intro w hSw
          try dsimp only at hSw
          go_simp
          try with_reducible rfl
        try simp only [Act.put, List.setIfInBounds_toArray, List.set_cons_zero, List.set_cons_succ]
        refine rg_gen (i := 2) (v := ?_) rfl (by kernel_rfl) (by kernel_rfl) (by kernel_rfl) (fun _ _ _ h => h) rfl (by rfl) ?_ (by assumption) ?_
        rotate_left
        · intro w hSw
          try dsimp only at hSw
          go_simp
          try with_reducible rfl
        try simp only [Act.put, List.setIfInBounds_toArray, List.set_cons_zero, List.set_cons_succ]
        refine rg_gen (i := 3) (v := ?_) rfl (by kernel_rfl) (by kernel_rfl) (by kernel_rfl) (fun _ _ _ h => h) rfl (by rfl) ?_ (by assumption) ?_
        rotate_left
        · intro w hSw
          try dsimp only at hSw
          go_simp
          try with_reducible rfl
        try simp only [Act.put, List.setIfInBounds_toArray, List.set_cons_zero, List.set_cons_succ]
        refine rg_gen (i := 4) (v := ?_) rfl (by kernel_rfl) (by kernel_rfl) (by kernel_rfl) (fun _ _ _ h => h) rfl (by rfl) ?_ (by assumption) ?_
        rotate_left
        · intro w hSw
          try dsimp only at hSw
          go_simp
          try with_reducible rfl
        try simp only [Act.put, List.setIfInBounds_toArray, List.set_cons_zero, List.set_cons_succ]
        refine rg_gen (i := 5) (v := ?_) rfl (by kernel_rfl) (by kernel_rfl) (by kernel_rfl) (fun _ _ _ h => h) rfl (by rfl) ?_ (by assumption) ?_
        rotate_left
        · intro w hSw
          try dsimp only at hSw
          go_simp
          try with_reducible rfl
        try simp only [Act.put, List.setIfInBounds_toArray, List.set_cons_zero, List.set_cons_succ]
        refine rg_gen (i := 6) (v := ?_) rfl (by kernel_rfl) (by kernel_rfl) (by kernel_rfl) (fun _ _ _ h => h) rfl (by rfl) ?_ (by assumption) ?_
        rotate_left
        · intro w hSw
          try dsimp only at hSw
          go_simp
          try with_reducible rfl
        try simp only [Act.put, List.setIfInBounds_toArray, List.set_cons_zero, List.set_cons_succ]
        refine wpAnyH_ready (rs := [0, 7]) (by kernel_rfl) (by simp) ?_
        refine AllReadyH.cons rfl (fun K hK => ?_) (AllReadyH.cons rfl (fun K hK => ?_) AllReadyH.nil)
        go_simp
        refine hK.out _ _ cs2 (fun _ => ?_)
        clear hK K
        try simp only [Act.put, List.setIfInBounds_toArray, List.set_cons_zero, List.set_cons_succ]
        refine rg_one (i := 7) (by kernel_rfl) rfl (fun K hK => ?_)
        go_simp
        refine hK.out _ _ HSA.out (fun _ => ?_)
        clear hK K
        rotate_left
        go_simp
        refine hK.out _ _ HSA.out (fun _ => ?_)
        clear hK K
        try simp only [Act.put, List.setIfInBounds_toArray, List.set_cons_zero, List.set_cons_succ]
        refine rg_one (i := 0) (by kernel_rfl) rfl (fun K hK => ?_)
        go_simp
        refine hK.out _ _ HSA.out (fun _ => ?_)
        clear hK K
        all_goals
          try simp only [Act.put, List.setIfInBounds_toArray, List.set_cons_zero, List.set_cons_succ]
          refine rg_one (i := 8) (by kernel_rfl) rfl (fun K hK => ?_)
          rw [if_pos (by rfl)]
          refine wp_appZ (.tmp 30) (.tmp 37) 48 rfl (bf + 1) v2 O2 (by rfl) HOA.out _ (by rfl) [UInt8.ofNat M, s[a]'hlt] (byte_src2 HMC.out rfl (heap_alloc_new w2.drew _)) Nat.two_pos (by simp; omega) ?_
          intro v6 w6 hO6 hb6
          have HO6 : Hid (OwnZ (bf + 1) v6 (O2 ++ [UInt8.ofNat M, s[a]'hlt]) w6) := show _ ∨ _ from .inr hO6
          have HB6 := Lib.hid (HBA.out.trans hb6)
          clear hO6 hb6
          obtain ⟨q6, n6, c6, rfl⟩ : ∃ q n c, v6 = .slice q n c := by
            obtain ⟨q, c, h⟩ := HO6.out.shape
            exact ⟨q, _, c, h⟩
          have co6 : w6.cell? ⟨bo, 0, none⟩ = some v2 := cell_of_one ((HB6.out.block bo HA2.out.lo.2.1).trans HA2.out.o)
          have cz6 : w6.frozen? ⟨bo, 0, none⟩ = false := frozen_of_row w6 bo 0 _ _ ((HB6.out.block bo HA2.out.lo.2.1).trans HA2.out.o)
          refine hK.out _ _ (KEEP.out _ HB6.out) (fun _ => ?_)
          clear hK K
          try simp only [Act.put, List.setIfInBounds_toArray]
          refine rg_one (i := 9) (by kernel_rfl) rfl (fun K hK => ?_)
          go_simp
          have hS6 : (w6.setCell ⟨bo, 0, none⟩ (.slice q6 n6 c6)).cell? ⟨w.heap.size, 0, none⟩ = some (.string s) := by
            have h2 : (w6.setCell ⟨bo, 0, none⟩ (.slice q6 n6 c6)).heap[w.heap.size]? = w6.heap[w.heap.size]? := heap_setCell_other _ _ _ _ (Ne.symm HA2.out.ne.2.2)
            exact (World.cell?_of_block (a := ⟨w.heap.size, 0, none⟩) h2).trans (KEEP.out _ HB6.out)
          refine hK.out _ _ hS6 (fun _ => ?_)
          clear hK K
          refine wpAnyH_done (by kernel_rfl) ?_ _
          have hA6 : StAt (bf + 1) (w6.setCell ⟨bo, 0, none⟩ (.slice q6 n6 c6)) bf bo w.heap.size s a (.slice q6 n6 c6) (O2 ++ [UInt8.ofNat M, s[a]'hlt]) := by
            have ha := HA2.out
            have hb := HB6.out
            exact ⟨(heap_setCell_other _ _ _ _ ha.ne.1).trans ((hb.block bf ha.lo.1).trans ha.f), set_row (i := 0) (cs := [v2]) ((hb.block bo ha.lo.2.1).trans ha.o) (.slice q6 n6 c6), (heap_setCell_other _ _ _ _ (Ne.symm ha.ne.2.2)).trans ((hb.block w.heap.size ha.lo.2.2).trans ha.s), OwnZ.set HO6.out ha.lo.2.1 _ _, ha.lo, ha.ne⟩
          have HA6 := Lib.hid hA6
          have HW6 : Hid (Below w.heap.size w (w6.setCell ⟨bo, 0, none⟩ (.slice q6 n6 c6))) := show Below _ _ _ from (HB2.out.trans (HB6.out.mono hlo.2.2)).setCell (p := ⟨bo, 0, none⟩) hlo.2.1 _
          have HEQ6 : Hid ((O2 ++ [UInt8.ofNat M, s[a]'hlt]) ++ rpk (L.drop (a + N)) = rpk L) := show _ = _ from by rw [← HEQ2.out, HRA2.out, List.append_assoc]; rfl
          clear hA6 co6 cz6 HO6 HB6 co2 co3 co4 co5 hbA HBA HOA HSA cs2 hS6 KEEP
          generalize w6.setCell ⟨bo, 0, none⟩ (.slice q6 n6 c6) = W6 at *
          have cf6 := cell_of_one HA6.out.f
          have cz6 : W6.frozen? ⟨bf, 0, none⟩ = false := frozen_of_row W6 bf 0 _ _ HA6.out.f
          obtain ⟨an, han⟩ : ∃ y, y = a + N := ⟨_, rfl⟩
          have e7 : IntKind.i64.wrap ((a : Int) + N) = (an : Int) := by have := HN.out; rw [IntWalk.i64_in _ (by omega)]; omega
          rw [← han] at HEQ6
          have HAN := Lib.hid han
          clear han
          go_wp2_with fail
          have hA7 : StAt (bf + 1) (W6.setCell ⟨bf, 0, none⟩ (.int .i64 (an : Int))) bf bo w.heap.size s an (.slice q6 n6 c6) (O2 ++ [UInt8.ofNat M, s[a]'hlt]) := by
            have ha := HA6.out
            exact ⟨set_row (i := 0) (cs := [.int .i64 (a : Int)]) ha.f (.int .i64 (an : Int)), (heap_setCell_other _ _ _ _ (Ne.symm ha.ne.1)).trans ha.o, (heap_setCell_other _ _ _ _ (Ne.symm ha.ne.2.1)).trans ha.s, ha.own.set ha.lo.1 _ _, ha.lo, ha.ne⟩
          have HA7 := Lib.hid hA7
          have HW7 : Hid (Below w.heap.size w (W6.setCell ⟨bf, 0, none⟩ (.int .i64 (an : Int)))) := show Below _ _ _ from HW6.out.setCell (p := ⟨bf, 0, none⟩) hlo.1 _
          clear hA7
          go_roundw
          case rel => exact ⟨an, an, .slice q6 n6 c6, _, by have := HN.out; have := HAN.out; omega, Nat.le_refl _, by omega, by go_num, show ∀ j, _ from fun j h1 h2 => absurd h2 (by omega), HEQ6, HA7, HW7⟩
          case measure => simp [intOf]; have := HN.out; have := HAN.out; omega
    · obtain rfl : a = s.size := by omega
      go_wp2_with fail
      refine (HST.out (bf + 1) bf bo w.heap.size F s.size v O _ HA.out hFa (Nat.le_refl _) (by omega) hOl).mono ?_
      rintro e w2 ⟨rfl, ⟨v2, hA2⟩, hT2⟩
      have HEQ2 : Hid ((if F < s.size then O ++ UInt8.ofNat (s.size - F - 1) :: ((L.drop F).take (s.size - F)) else O) = rpk L) := show _ = _ from by
        have hnil : rpk (L.drop s.size) = [] := by rw [← HLL.out, List.drop_length]; rfl
        by_cases hFa2 : F < s.size
        · rw [if_pos hFa2, ← HEQ.out, rpk_stretch (s := L) (f := F) (a := s.size) hFa2 (by have := HLL.out; omega) (by omega) HNO.out (.inr (.inl HLL.out.symm)), hnil, List.append_nil]
        · have hFs : F = s.size := by omega
          rw [if_neg hFa2, ← HEQ.out, hFs, hnil, List.append_nil]
      rw [HEQ2.out] at hA2
      have hcv := hA2.own.conv
      have co := cell_of_one hA2.o
      have HB2 := Lib.hid (hT2.below HB.out hlo.1 hlo.2.1 hlo.2.2)
      clear hA2 hT2 cs
      go_wp2_with fail
      go_ret
      exact ⟨rfl, HB2.out⟩
open Go.RowKit
set_option maxHeartbeats 2000000
set_option maxRecDepth 4000
theorem three_get {s : ByteArray} {a : Nat} (h : a + 2 < s.size) : three (s.data.toList.drop a) = (s[a]'(by omega) == s[a + 1]'(by omega) && s[a]'(by omega) == s[a + 2]'h) := by
  have hl : s.data.toList.length = s.size := rfl
  rw [three_at (show a + 2 < s.data.toList.length by rw [hl]; exact h)]
  rfl
theorem three6_any (s : ByteArray) (a : Nat) (w : World) (hs : s.size ≤ 140737488355328) (ha : a ≤ s.size) :
    Calls Tryd.prog 76 #[.string s, .int .i64 a] w fun e w' => e = .returned (.bool (three (s.data.toList.drop a))) ∧ Below w.heap.size w w' := by
  have hl : s.data.toList.length = s.size := rfl
  obtain ⟨k1, h1⟩ : ∃ k, k = a + 1 := ⟨_, rfl⟩
  obtain ⟨k2, h2⟩ : ∃ k, k = a + 2 := ⟨_, rfl⟩
  have e1 : IntKind.i64.wrap ((a : Int) + 1) = (k1 : Int) := by rw [IntWalk.i64_in _ (by omega)]; omega
  have e2 : IntKind.i64.wrap ((a : Int) + 2) = (k2 : Int) := by rw [IntWalk.i64_in _ (by omega)]; omega
  have f0 : (0 : Int) ≤ a := by omega
  have f1 : (0 : Int) ≤ k1 := by omega
  have f2 : (0 : Int) ≤ k2 := by omega
  by_cases hlt : k2 < s.size
  · have d0 : decide ((k2 : Int) < s.size) = true := decide_eq_true (by omega)
    have g0 : (a : Int) < s.size := by omega
    have g1 : (k1 : Int) < s.size := by omega
    have g2 : (k2 : Int) < s.size := by omega
    have hla : a < s.size := by omega
    have hl1 : k1 < s.size := by omega
    have HT : Hid (three (s.data.toList.drop a) = (s[a]'hla == s[k1]'hl1 && s[a]'hla == s[k2]'hlt)) := show _ = _ from by subst h1 h2; exact three_get hlt
    generalize three (s.data.toList.drop a) = R at *
    clear h1 h2
    by_cases hc : s[a]'hla = s[k1]'hl1
    · have d1 : (((s[a]'hla).toNat : Int) == ((s[k1]'hl1).toNat : Int)) = true := by rw [hc]; simp
      by_cases hd : s[a]'hla = s[k2]'hlt
      · have d2 : (((s[a]'hla).toNat : Int) == ((s[k2]'hlt).toNat : Int)) = true := by rw [hd]; simp
        have HR : Hid (R = true) := show _ = _ from by rw [HT.out, ← hc, ← hd]; simp
        clear hc hd
        go_enter Tryd.func76, Tryd.ntmps76
        go_wp2_with fail
        refine wp_region_classW (fun W => Below w.heap.size w W) (by kernel_rfl) (by kernel_rfl) (Below.refl _ _).drew ?_
        refine WQ.gen (v := ?_) (by kernel_rfl) ?_ ?_
        rotate_left
        · intro W hC
          go_simp
          try with_reducible rfl
        refine WQ.eq (a' := ?_) ?_ ?_
        rotate_left
        · try simp only [Act.put, List.setIfInBounds_toArray, List.set_cons_zero, List.set_cons_succ]
          exact rfl
        refine WQ.gen (v := ?_) (by kernel_rfl) ?_ ?_
        rotate_left
        · intro W hC
          go_simp
          try with_reducible rfl
        refine WQ.eq (a' := ?_) ?_ ?_
        rotate_left
        · try simp only [Act.put, List.setIfInBounds_toArray, List.set_cons_zero, List.set_cons_succ]
          exact rfl
        refine WQ.gen (v := ?_) (by kernel_rfl) ?_ ?_
        rotate_left
        · intro W hC
          go_simp
          try with_reducible rfl
        refine WQ.eq (a' := ?_) ?_ ?_
        rotate_left
        · try simp only [Act.put, List.setIfInBounds_toArray, List.set_cons_zero, List.set_cons_succ]
          exact rfl
        refine WQ.gen (v := ?_) (by kernel_rfl) ?_ ?_
        rotate_left
        · intro W hC
          go_simp
          try with_reducible rfl
        refine WQ.eq (a' := ?_) ?_ ?_
        rotate_left
        · try simp only [Act.put, List.setIfInBounds_toArray, List.set_cons_zero, List.set_cons_succ]
          exact rfl
        refine WQ.gen (v := ?_) (by kernel_rfl) ?_ ?_
        rotate_left
        · intro W hC
          go_simp
          try with_reducible rfl
        refine WQ.eq (a' := ?_) ?_ ?_
        rotate_left
        · try simp only [Act.put, List.setIfInBounds_toArray, List.set_cons_zero, List.set_cons_succ]
          exact rfl
        refine WQ.gen (v := ?_) (by kernel_rfl) ?_ ?_
        rotate_left
        · intro W hC
          go_simp
          try with_reducible rfl
        refine WQ.eq (a' := ?_) ?_ ?_
        rotate_left
        · try simp only [Act.put, List.setIfInBounds_toArray, List.set_cons_zero, List.set_cons_succ]
          exact rfl
        refine WQ.gen (v := ?_) (by kernel_rfl) ?_ ?_
        rotate_left
        · intro W hC
          go_simp
          try with_reducible rfl
        refine WQ.eq (a' := ?_) ?_ ?_
        rotate_left
        · try simp only [Act.put, List.setIfInBounds_toArray, List.set_cons_zero, List.set_cons_succ]
          exact rfl
        refine WQ.gen (v := ?_) (by kernel_rfl) ?_ ?_
        rotate_left
        · intro W hC
          go_simp
          try with_reducible rfl
        refine WQ.eq (a' := ?_) ?_ ?_
        rotate_left
        · try simp only [Act.put, List.setIfInBounds_toArray, List.set_cons_zero, List.set_cons_succ]
          exact rfl
        refine WQ.gen (v := ?_) (by kernel_rfl) ?_ ?_
        rotate_left
        · intro W hC
          go_simp
          try with_reducible rfl
        refine WQ.eq (a' := ?_) ?_ ?_
        rotate_left
        · try simp only [Act.put, List.setIfInBounds_toArray, List.set_cons_zero, List.set_cons_succ]
          exact rfl
        refine WQ.gen (v := ?_) (by kernel_rfl) ?_ ?_
        rotate_left
        · intro W hC
          go_simp
          try with_reducible rfl
        refine WQ.eq (a' := ?_) ?_ ?_
        rotate_left
        · try simp only [Act.put, List.setIfInBounds_toArray, List.set_cons_zero, List.set_cons_succ]
          exact rfl
        refine WQ.gen (v := ?_) (by kernel_rfl) ?_ ?_
        rotate_left
        · intro W hC
          go_simp
          try with_reducible rfl
        refine WQ.eq (a' := ?_) ?_ ?_
        rotate_left
        · try simp only [Act.put, List.setIfInBounds_toArray, List.set_cons_zero, List.set_cons_succ]
          exact rfl
        refine WQ.gen (v := ?_) (by kernel_rfl) ?_ ?_
        rotate_left
        · intro W hC
          go_simp
          try with_reducible rfl
        refine WQ.eq (a' := ?_) ?_ ?_
        rotate_left
        · try simp only [Act.put, List.setIfInBounds_toArray, List.set_cons_zero, List.set_cons_succ]
          exact rfl
        refine WQ.gen (v := ?_) (by kernel_rfl) ?_ ?_
        rotate_left
        · intro W hC
          go_simp
          try with_reducible rfl
        refine WQ.eq (a' := ?_) ?_ ?_
        rotate_left
        · try simp only [Act.put, List.setIfInBounds_toArray, List.set_cons_zero, List.set_cons_succ]
          exact rfl
        refine WQ.gen (v := ?_) (by kernel_rfl) ?_ ?_
        rotate_left
        · intro W hC
          go_simp
          try with_reducible rfl
        refine WQ.eq (a' := ?_) ?_ ?_
        rotate_left
        · try simp only [Act.put, List.setIfInBounds_toArray, List.set_cons_zero, List.set_cons_succ]
          exact rfl
        refine WQ.gen (v := ?_) (by kernel_rfl) ?_ ?_
        rotate_left
        · intro W hC
          go_simp
          try with_reducible rfl
        refine WQ.eq (a' := ?_) ?_ ?_
        rotate_left
        · try simp only [Act.put, List.setIfInBounds_toArray, List.set_cons_zero, List.set_cons_succ]
          exact rfl
        refine WQ.gen (v := ?_) (by kernel_rfl) ?_ ?_
        rotate_left
        · intro W hC
          go_simp
          try with_reducible rfl
        refine WQ.eq (a' := ?_) ?_ ?_
        rotate_left
        · try simp only [Act.put, List.setIfInBounds_toArray, List.set_cons_zero, List.set_cons_succ]
          exact rfl
        refine WQ.gen (v := ?_) (by kernel_rfl) ?_ ?_
        rotate_left
        · intro W hC
          go_simp
          try with_reducible rfl
        refine WQ.eq (a' := ?_) ?_ ?_
        rotate_left
        · try simp only [Act.put, List.setIfInBounds_toArray, List.set_cons_zero, List.set_cons_succ]
          exact rfl
        refine WQ.gen (v := ?_) (by kernel_rfl) ?_ ?_
        rotate_left
        · intro W hC
          go_simp
          try with_reducible rfl
        refine WQ.eq (a' := ?_) ?_ ?_
        rotate_left
        · try simp only [Act.put, List.setIfInBounds_toArray, List.set_cons_zero, List.set_cons_succ]
          exact rfl
        refine WQ.gen (v := ?_) (by kernel_rfl) ?_ ?_
        rotate_left
        · intro W hC
          go_simp
          try with_reducible rfl
        refine WQ.eq (a' := ?_) ?_ ?_
        rotate_left
        · try simp only [Act.put, List.setIfInBounds_toArray, List.set_cons_zero, List.set_cons_succ]
          exact rfl
        refine WQ.gen (v := ?_) (by kernel_rfl) ?_ ?_
        rotate_left
        · intro W hC
          go_simp
          try with_reducible rfl
        refine WQ.eq (a' := ?_) ?_ ?_
        rotate_left
        · try simp only [Act.put, List.setIfInBounds_toArray, List.set_cons_zero, List.set_cons_succ]
          exact rfl
        refine WQ.gen (v := ?_) (by kernel_rfl) ?_ ?_
        rotate_left
        · intro W hC
          go_simp
          try with_reducible rfl
        refine WQ.eq (a' := ?_) ?_ ?_
        rotate_left
        · try simp only [Act.put, List.setIfInBounds_toArray, List.set_cons_zero, List.set_cons_succ]
          exact rfl
        refine WQ.gen (v := ?_) (by kernel_rfl) ?_ ?_
        rotate_left
        · intro W hC
          go_simp
          try with_reducible rfl
        refine WQ.eq (a' := ?_) ?_ ?_
        rotate_left
        · try simp only [Act.put, List.setIfInBounds_toArray, List.set_cons_zero, List.set_cons_succ]
          exact rfl
        refine WQ.gen (v := ?_) (by kernel_rfl) ?_ ?_
        rotate_left
        · intro W hC
          go_simp
          try with_reducible rfl
        refine WQ.eq (a' := ?_) ?_ ?_
        rotate_left
        · try simp only [Act.put, List.setIfInBounds_toArray, List.set_cons_zero, List.set_cons_succ]
          exact rfl
        refine WQ.gen (v := ?_) (by kernel_rfl) ?_ ?_
        rotate_left
        · intro W hC
          go_simp
          try with_reducible rfl
        refine WQ.eq (a' := ?_) ?_ ?_
        rotate_left
        · try simp only [Act.put, List.setIfInBounds_toArray, List.set_cons_zero, List.set_cons_succ]
          exact rfl
        refine WQ.gen (v := ?_) (by kernel_rfl) ?_ ?_
        rotate_left
        · intro W hC
          go_simp
          try with_reducible rfl
        refine WQ.eq (a' := ?_) ?_ ?_
        rotate_left
        · try simp only [Act.put, List.setIfInBounds_toArray, List.set_cons_zero, List.set_cons_succ]
          exact rfl
        refine WQ.gen (v := ?_) (by kernel_rfl) ?_ ?_
        rotate_left
        · intro W hC
          go_simp
          try with_reducible rfl
        refine WQ.eq (a' := ?_) ?_ ?_
        rotate_left
        · try simp only [Act.put, List.setIfInBounds_toArray, List.set_cons_zero, List.set_cons_succ]
          exact rfl
        refine WQ.nil ?_
        intro w2 hB2
        have HB2 := Lib.hid hB2
        clear hB2
        go_wp2_with fail
        go_ret
        exact ⟨by rw [HR.out]; rfl, HB2.out⟩
      · have d2 : (((s[a]'hla).toNat : Int) == ((s[k2]'hlt).toNat : Int)) = false := by
          rw [beq_eq_false_iff_ne]
          intro h
          exact hd (UInt8.toNat_inj.1 (by omega))
        have HR : Hid (R = false) := show _ = _ from by rw [HT.out]; simp [hd]
        clear hc hd
        go_enter Tryd.func76, Tryd.ntmps76
        go_wp2_with fail
        refine wp_region_classW (fun W => Below w.heap.size w W) (by kernel_rfl) (by kernel_rfl) (Below.refl _ _).drew ?_
        refine WQ.gen (v := ?_) (by kernel_rfl) ?_ ?_
        rotate_left
        · intro W hC
          go_simp
          try with_reducible rfl
        refine WQ.eq (a' := ?_) ?_ ?_
        rotate_left
        · try simp only [Act.put, List.setIfInBounds_toArray, List.set_cons_zero, List.set_cons_succ]
          exact rfl
        refine WQ.gen (v := ?_) (by kernel_rfl) ?_ ?_
        rotate_left
        · intro W hC
          go_simp
          try with_reducible rfl
        refine WQ.eq (a' := ?_) ?_ ?_
        rotate_left
        · try simp only [Act.put, List.setIfInBounds_toArray, List.set_cons_zero, List.set_cons_succ]
          exact rfl
        refine WQ.gen (v := ?_) (by kernel_rfl) ?_ ?_
        rotate_left
        · intro W hC
          go_simp
          try with_reducible rfl
        refine WQ.eq (a' := ?_) ?_ ?_
        rotate_left
        · try simp only [Act.put, List.setIfInBounds_toArray, List.set_cons_zero, List.set_cons_succ]
          exact rfl
        refine WQ.gen (v := ?_) (by kernel_rfl) ?_ ?_
        rotate_left
        · intro W hC
          go_simp
          try with_reducible rfl
        refine WQ.eq (a' := ?_) ?_ ?_
        rotate_left
        · try simp only [Act.put, List.setIfInBounds_toArray, List.set_cons_zero, List.set_cons_succ]
          exact rfl
        refine WQ.gen (v := ?_) (by kernel_rfl) ?_ ?_
        rotate_left
        · intro W hC
          go_simp
          try with_reducible rfl
        refine WQ.eq (a' := ?_) ?_ ?_
        rotate_left
        · try simp only [Act.put, List.setIfInBounds_toArray, List.set_cons_zero, List.set_cons_succ]
          exact rfl
        refine WQ.gen (v := ?_) (by kernel_rfl) ?_ ?_
        rotate_left
        · intro W hC
          go_simp
          try with_reducible rfl
        refine WQ.eq (a' := ?_) ?_ ?_
        rotate_left
        · try simp only [Act.put, List.setIfInBounds_toArray, List.set_cons_zero, List.set_cons_succ]
          exact rfl
        refine WQ.gen (v := ?_) (by kernel_rfl) ?_ ?_
        rotate_left
        · intro W hC
          go_simp
          try with_reducible rfl
        refine WQ.eq (a' := ?_) ?_ ?_
        rotate_left
        · try simp only [Act.put, List.setIfInBounds_toArray, List.set_cons_zero, List.set_cons_succ]
          exact rfl
        refine WQ.gen (v := ?_) (by kernel_rfl) ?_ ?_
        rotate_left
        · intro W hC
          go_simp
          try with_reducible rfl
        refine WQ.eq (a' := ?_) ?_ ?_
        rotate_left
        · try simp only [Act.put, List.setIfInBounds_toArray, List.set_cons_zero, List.set_cons_succ]
          exact rfl
        refine WQ.gen (v := ?_) (by kernel_rfl) ?_ ?_
        rotate_left
        · intro W hC
          go_simp
          try with_reducible rfl
        refine WQ.eq (a' := ?_) ?_ ?_
        rotate_left
        · try simp only [Act.put, List.setIfInBounds_toArray, List.set_cons_zero, List.set_cons_succ]
          exact rfl
        refine WQ.gen (v := ?_) (by kernel_rfl) ?_ ?_
        rotate_left
        · intro W hC
          go_simp
          try with_reducible rfl
        refine WQ.eq (a' := ?_) ?_ ?_
        rotate_left
        · try simp only [Act.put, List.setIfInBounds_toArray, List.set_cons_zero, List.set_cons_succ]
          exact rfl
        refine WQ.gen (v := ?_) (by kernel_rfl) ?_ ?_
        rotate_left
        · intro W hC
          go_simp
          try with_reducible rfl
        refine WQ.eq (a' := ?_) ?_ ?_
        rotate_left
        · try simp only [Act.put, List.setIfInBounds_toArray, List.set_cons_zero, List.set_cons_succ]
          exact rfl
        refine WQ.gen (v := ?_) (by kernel_rfl) ?_ ?_
        rotate_left
        · intro W hC
          go_simp
          try with_reducible rfl
        refine WQ.eq (a' := ?_) ?_ ?_
        rotate_left
        · try simp only [Act.put, List.setIfInBounds_toArray, List.set_cons_zero, List.set_cons_succ]
          exact rfl
        refine WQ.gen (v := ?_) (by kernel_rfl) ?_ ?_
        rotate_left
        · intro W hC
          go_simp
          try with_reducible rfl
        refine WQ.eq (a' := ?_) ?_ ?_
        rotate_left
        · try simp only [Act.put, List.setIfInBounds_toArray, List.set_cons_zero, List.set_cons_succ]
          exact rfl
        refine WQ.gen (v := ?_) (by kernel_rfl) ?_ ?_
        rotate_left
        · intro W hC
          go_simp
          try with_reducible rfl
        refine WQ.eq (a' := ?_) ?_ ?_
        rotate_left
        · try simp only [Act.put, List.setIfInBounds_toArray, List.set_cons_zero, List.set_cons_succ]
          exact rfl
        refine WQ.gen (v := ?_) (by kernel_rfl) ?_ ?_
        rotate_left
        · intro W hC
          go_simp
          try with_reducible rfl
        refine WQ.eq (a' := ?_) ?_ ?_
        rotate_left
        · try simp only [Act.put, List.setIfInBounds_toArray, List.set_cons_zero, List.set_cons_succ]
          exact rfl
        refine WQ.gen (v := ?_) (by kernel_rfl) ?_ ?_
        rotate_left
        · intro W hC
          go_simp
          try with_reducible rfl
        refine WQ.eq (a' := ?_) ?_ ?_
        rotate_left
        · try simp only [Act.put, List.setIfInBounds_toArray, List.set_cons_zero, List.set_cons_succ]
          exact rfl
        refine WQ.gen (v := ?_) (by kernel_rfl) ?_ ?_
        rotate_left
        · intro W hC
          go_simp
          try with_reducible rfl
        refine WQ.eq (a' := ?_) ?_ ?_
        rotate_left
        · try simp only [Act.put, List.setIfInBounds_toArray, List.set_cons_zero, List.set_cons_succ]
          exact rfl
        refine WQ.gen (v := ?_) (by kernel_rfl) ?_ ?_
        rotate_left
        · intro W hC
          go_simp
          try with_reducible rfl
        refine WQ.eq (a' := ?_) ?_ ?_
        rotate_left
        · try simp only [Act.put, List.setIfInBounds_toArray, List.set_cons_zero, List.set_cons_succ]
          exact rfl
        refine WQ.gen (v := ?_) (by kernel_rfl) ?_ ?_
        rotate_left
        · intro W hC
          go_simp
          try with_reducible rfl
        refine WQ.eq (a' := ?_) ?_ ?_
        rotate_left
        · try simp only [Act.put, List.setIfInBounds_toArray, List.set_cons_zero, List.set_cons_succ]
          exact rfl
        refine WQ.gen (v := ?_) (by kernel_rfl) ?_ ?_
        rotate_left
        · intro W hC
          go_simp
          try with_reducible rfl
        refine WQ.eq (a' := ?_) ?_ ?_
        rotate_left
        · try simp only [Act.put, List.setIfInBounds_toArray, List.set_cons_zero, List.set_cons_succ]
          exact rfl
        refine WQ.gen (v := ?_) (by kernel_rfl) ?_ ?_
        rotate_left
        · intro W hC
          go_simp
          try with_reducible rfl
        refine WQ.eq (a' := ?_) ?_ ?_
        rotate_left
        · try simp only [Act.put, List.setIfInBounds_toArray, List.set_cons_zero, List.set_cons_succ]
          exact rfl
        refine WQ.gen (v := ?_) (by kernel_rfl) ?_ ?_
        rotate_left
        · intro W hC
          go_simp
          try with_reducible rfl
        refine WQ.eq (a' := ?_) ?_ ?_
        rotate_left
        · try simp only [Act.put, List.setIfInBounds_toArray, List.set_cons_zero, List.set_cons_succ]
          exact rfl
        refine WQ.gen (v := ?_) (by kernel_rfl) ?_ ?_
        rotate_left
        · intro W hC
          go_simp
          try with_reducible rfl
        refine WQ.eq (a' := ?_) ?_ ?_
        rotate_left
        · try simp only [Act.put, List.setIfInBounds_toArray, List.set_cons_zero, List.set_cons_succ]
          exact rfl
        refine WQ.gen (v := ?_) (by kernel_rfl) ?_ ?_
        rotate_left
        · intro W hC
          go_simp
          try with_reducible rfl
        refine WQ.eq (a' := ?_) ?_ ?_
        rotate_left
        · try simp only [Act.put, List.setIfInBounds_toArray, List.set_cons_zero, List.set_cons_succ]
          exact rfl
        refine WQ.gen (v := ?_) (by kernel_rfl) ?_ ?_
        rotate_left
        · intro W hC
          go_simp
          try with_reducible rfl
        refine WQ.eq (a' := ?_) ?_ ?_
        rotate_left
        · try simp only [Act.put, List.setIfInBounds_toArray, List.set_cons_zero, List.set_cons_succ]
          exact rfl
        refine WQ.gen (v := ?_) (by kernel_rfl) ?_ ?_
        rotate_left
        · intro W hC
          go_simp
          try with_reducible rfl
        refine WQ.eq (a' := ?_) ?_ ?_
        rotate_left
        · try simp only [Act.put, List.setIfInBounds_toArray, List.set_cons_zero, List.set_cons_succ]
          exact rfl
        refine WQ.nil ?_
        intro w2 hB2
        have HB2 := Lib.hid hB2
        clear hB2
        go_wp2_with fail
        go_ret
        exact ⟨by rw [HR.out]; rfl, HB2.out⟩
    · have d1 : (((s[a]'hla).toNat : Int) == ((s[k1]'hl1).toNat : Int)) = false := by
        rw [beq_eq_false_iff_ne]
        intro h
        exact hc (UInt8.toNat_inj.1 (by omega))
      have HR : Hid (R = false) := show _ = _ from by rw [HT.out]; simp [hc]
      clear hc
      go_enter Tryd.func76, Tryd.ntmps76
      go_wp2_with fail
      refine wp_region_classW (fun W => Below w.heap.size w W) (by kernel_rfl) (by kernel_rfl) (Below.refl _ _).drew ?_
      refine WQ.gen (v := ?_) (by kernel_rfl) ?_ ?_
      rotate_left
      · intro W hC
        go_simp
        try with_reducible rfl
      refine WQ.eq (a' := ?_) ?_ ?_
      rotate_left
      · try simp only [Act.put, List.setIfInBounds_toArray, List.set_cons_zero, List.set_cons_succ]
        exact rfl
      refine WQ.gen (v := ?_) (by kernel_rfl) ?_ ?_
      rotate_left
      · intro W hC
        go_simp
        try with_reducible rfl
      refine WQ.eq (a' := ?_) ?_ ?_
      rotate_left
      · try simp only [Act.put, List.setIfInBounds_toArray, List.set_cons_zero, List.set_cons_succ]
        exact rfl
      refine WQ.gen (v := ?_) (by kernel_rfl) ?_ ?_
      rotate_left
      · intro W hC
        go_simp
        try with_reducible rfl
      refine WQ.eq (a' := ?_) ?_ ?_
      rotate_left
      · try simp only [Act.put, List.setIfInBounds_toArray, List.set_cons_zero, List.set_cons_succ]
        exact rfl
      refine WQ.gen (v := ?_) (by kernel_rfl) ?_ ?_
      rotate_left
      · intro W hC
        go_simp
        try with_reducible rfl
      refine WQ.eq (a' := ?_) ?_ ?_
      rotate_left
      · try simp only [Act.put, List.setIfInBounds_toArray, List.set_cons_zero, List.set_cons_succ]
        exact rfl
      refine WQ.gen (v := ?_) (by kernel_rfl) ?_ ?_
      rotate_left
      · intro W hC
        go_simp
        try with_reducible rfl
      refine WQ.eq (a' := ?_) ?_ ?_
      rotate_left
      · try simp only [Act.put, List.setIfInBounds_toArray, List.set_cons_zero, List.set_cons_succ]
        exact rfl
      refine WQ.gen (v := ?_) (by kernel_rfl) ?_ ?_
      rotate_left
      · intro W hC
        go_simp
        try with_reducible rfl
      refine WQ.eq (a' := ?_) ?_ ?_
      rotate_left
      · try simp only [Act.put, List.setIfInBounds_toArray, List.set_cons_zero, List.set_cons_succ]
        exact rfl
      refine WQ.gen (v := ?_) (by kernel_rfl) ?_ ?_
      rotate_left
      · intro W hC
        go_simp
        try with_reducible rfl
      refine WQ.eq (a' := ?_) ?_ ?_
      rotate_left
      · try simp only [Act.put, List.setIfInBounds_toArray, List.set_cons_zero, List.set_cons_succ]
        exact rfl
      refine WQ.gen (v := ?_) (by kernel_rfl) ?_ ?_
      rotate_left
      · intro W hC
        go_simp
        try with_reducible rfl
      refine WQ.eq (a' := ?_) ?_ ?_
      rotate_left
      · try simp only [Act.put, List.setIfInBounds_toArray, List.set_cons_zero, List.set_cons_succ]
        exact rfl
      refine WQ.gen (v := ?_) (by kernel_rfl) ?_ ?_
      rotate_left
      · intro W hC
        go_simp
        try with_reducible rfl
      refine WQ.eq (a' := ?_) ?_ ?_
      rotate_left
      · try simp only [Act.put, List.setIfInBounds_toArray, List.set_cons_zero, List.set_cons_succ]
        exact rfl
      refine WQ.gen (v := ?_) (by kernel_rfl) ?_ ?_
      rotate_left
      · intro W hC
        go_simp
        try with_reducible rfl
      refine WQ.eq (a' := ?_) ?_ ?_
      rotate_left
      · try simp only [Act.put, List.setIfInBounds_toArray, List.set_cons_zero, List.set_cons_succ]
        exact rfl
      refine WQ.gen (v := ?_) (by kernel_rfl) ?_ ?_
      rotate_left
      · intro W hC
        go_simp
        try with_reducible rfl
      refine WQ.eq (a' := ?_) ?_ ?_
      rotate_left
      · try simp only [Act.put, List.setIfInBounds_toArray, List.set_cons_zero, List.set_cons_succ]
        exact rfl
      refine WQ.gen (v := ?_) (by kernel_rfl) ?_ ?_
      rotate_left
      · intro W hC
        go_simp
        try with_reducible rfl
      refine WQ.eq (a' := ?_) ?_ ?_
      rotate_left
      · try simp only [Act.put, List.setIfInBounds_toArray, List.set_cons_zero, List.set_cons_succ]
        exact rfl
      refine WQ.gen (v := ?_) (by kernel_rfl) ?_ ?_
      rotate_left
      · intro W hC
        go_simp
        try with_reducible rfl
      refine WQ.eq (a' := ?_) ?_ ?_
      rotate_left
      · try simp only [Act.put, List.setIfInBounds_toArray, List.set_cons_zero, List.set_cons_succ]
        exact rfl
      refine WQ.gen (v := ?_) (by kernel_rfl) ?_ ?_
      rotate_left
      · intro W hC
        go_simp
        try with_reducible rfl
      refine WQ.eq (a' := ?_) ?_ ?_
      rotate_left
      · try simp only [Act.put, List.setIfInBounds_toArray, List.set_cons_zero, List.set_cons_succ]
        exact rfl
      refine WQ.gen (v := ?_) (by kernel_rfl) ?_ ?_
      rotate_left
      · intro W hC
        go_simp
        try with_reducible rfl
      refine WQ.eq (a' := ?_) ?_ ?_
      rotate_left
      · try simp only [Act.put, List.setIfInBounds_toArray, List.set_cons_zero, List.set_cons_succ]
        exact rfl
      refine WQ.gen (v := ?_) (by kernel_rfl) ?_ ?_
      rotate_left
      · intro W hC
        go_simp
        try with_reducible rfl
      refine WQ.eq (a' := ?_) ?_ ?_
      rotate_left
      · try simp only [Act.put, List.setIfInBounds_toArray, List.set_cons_zero, List.set_cons_succ]
        exact rfl
      refine WQ.skip (by kernel_rfl) ?_
      refine WQ.eq (a' := ?_) ?_ ?_
      rotate_left
      · try simp only [Act.put, List.setIfInBounds_toArray, List.set_cons_zero, List.set_cons_succ]
        exact rfl
      refine WQ.skip (by kernel_rfl) ?_
      refine WQ.eq (a' := ?_) ?_ ?_
      rotate_left
      · try simp only [Act.put, List.setIfInBounds_toArray, List.set_cons_zero, List.set_cons_succ]
        exact rfl
      refine WQ.skip (by kernel_rfl) ?_
      refine WQ.eq (a' := ?_) ?_ ?_
      rotate_left
      · try simp only [Act.put, List.setIfInBounds_toArray, List.set_cons_zero, List.set_cons_succ]
        exact rfl
      refine WQ.skip (by kernel_rfl) ?_
      refine WQ.eq (a' := ?_) ?_ ?_
      rotate_left
      · try simp only [Act.put, List.setIfInBounds_toArray, List.set_cons_zero, List.set_cons_succ]
        exact rfl
      refine WQ.skip (by kernel_rfl) ?_
      refine WQ.eq (a' := ?_) ?_ ?_
      rotate_left
      · try simp only [Act.put, List.setIfInBounds_toArray, List.set_cons_zero, List.set_cons_succ]
        exact rfl
      refine WQ.skip (by kernel_rfl) ?_
      refine WQ.eq (a' := ?_) ?_ ?_
      rotate_left
      · try simp only [Act.put, List.setIfInBounds_toArray, List.set_cons_zero, List.set_cons_succ]
        exact rfl
      refine WQ.skip (by kernel_rfl) ?_
      refine WQ.eq (a' := ?_) ?_ ?_
      rotate_left
      · try simp only [Act.put, List.setIfInBounds_toArray, List.set_cons_zero, List.set_cons_succ]
        exact rfl
      refine WQ.skip (by kernel_rfl) ?_
      refine WQ.eq (a' := ?_) ?_ ?_
      rotate_left
      · try simp only [Act.put, List.setIfInBounds_toArray, List.set_cons_zero, List.set_cons_succ]
        exact rfl
      refine WQ.gen (v := ?_) (by kernel_rfl) ?_ ?_
      rotate_left
      · intro W hC
        go_simp
        try with_reducible rfl
      refine WQ.eq (a' := ?_) ?_ ?_
      rotate_left
      · try simp only [Act.put, List.setIfInBounds_toArray, List.set_cons_zero, List.set_cons_succ]
        exact rfl
      refine WQ.gen (v := ?_) (by kernel_rfl) ?_ ?_
      rotate_left
      · intro W hC
        go_simp
        try with_reducible rfl
      refine WQ.eq (a' := ?_) ?_ ?_
      rotate_left
      · try simp only [Act.put, List.setIfInBounds_toArray, List.set_cons_zero, List.set_cons_succ]
        exact rfl
      refine WQ.nil ?_
      intro w2 hB2
      have HB2 := Lib.hid hB2
      clear hB2
      go_wp2_with fail
      go_ret
      exact ⟨by rw [HR.out]; rfl, HB2.out⟩
  · have d0 : decide ((k2 : Int) < s.size) = false := decide_eq_false (by omega)
    have HR : Hid (three (s.data.toList.drop a) = false) := show _ = _ from three_end (by rw [hl]; omega)
    generalize three (s.data.toList.drop a) = R at *
    clear h1 h2
    go_enter Tryd.func76, Tryd.ntmps76
    go_wp2_with fail
    refine wp_region_classW (fun W => Below w.heap.size w W) (by kernel_rfl) (by kernel_rfl) (Below.refl _ _).drew ?_
    refine WQ.gen (v := ?_) (by kernel_rfl) ?_ ?_
    rotate_left
    · intro W hC
      go_simp
      try with_reducible rfl
    refine WQ.eq (a' := ?_) ?_ ?_
    rotate_left
    · try simp only [Act.put, List.setIfInBounds_toArray, List.set_cons_zero, List.set_cons_succ]
      exact rfl
    refine WQ.gen (v := ?_) (by kernel_rfl) ?_ ?_
    rotate_left
    · intro W hC
      go_simp
      try with_reducible rfl
    refine WQ.eq (a' := ?_) ?_ ?_
    rotate_left
    · try simp only [Act.put, List.setIfInBounds_toArray, List.set_cons_zero, List.set_cons_succ]
      exact rfl
    refine WQ.gen (v := ?_) (by kernel_rfl) ?_ ?_
    rotate_left
    · intro W hC
      go_simp
      try with_reducible rfl
    refine WQ.eq (a' := ?_) ?_ ?_
    rotate_left
    · try simp only [Act.put, List.setIfInBounds_toArray, List.set_cons_zero, List.set_cons_succ]
      exact rfl
    refine WQ.gen (v := ?_) (by kernel_rfl) ?_ ?_
    rotate_left
    · intro W hC
      go_simp
      try with_reducible rfl
    refine WQ.eq (a' := ?_) ?_ ?_
    rotate_left
    · try simp only [Act.put, List.setIfInBounds_toArray, List.set_cons_zero, List.set_cons_succ]
      exact rfl
    refine WQ.gen (v := ?_) (by kernel_rfl) ?_ ?_
    rotate_left
    · intro W hC
      go_simp
      try with_reducible rfl
    refine WQ.eq (a' := ?_) ?_ ?_
    rotate_left
    · try simp only [Act.put, List.setIfInBounds_toArray, List.set_cons_zero, List.set_cons_succ]
      exact rfl
    refine WQ.gen (v := ?_) (by kernel_rfl) ?_ ?_
    rotate_left
    · intro W hC
      go_simp
      try with_reducible rfl
    refine WQ.eq (a' := ?_) ?_ ?_
    rotate_left
    · try simp only [Act.put, List.setIfInBounds_toArray, List.set_cons_zero, List.set_cons_succ]
      exact rfl
    refine WQ.skip (by kernel_rfl) ?_
    refine WQ.eq (a' := ?_) ?_ ?_
    rotate_left
    · try simp only [Act.put, List.setIfInBounds_toArray, List.set_cons_zero, List.set_cons_succ]
      exact rfl
    refine WQ.skip (by kernel_rfl) ?_
    refine WQ.eq (a' := ?_) ?_ ?_
    rotate_left
    · try simp only [Act.put, List.setIfInBounds_toArray, List.set_cons_zero, List.set_cons_succ]
      exact rfl
    refine WQ.skip (by kernel_rfl) ?_
    refine WQ.eq (a' := ?_) ?_ ?_
    rotate_left
    · try simp only [Act.put, List.setIfInBounds_toArray, List.set_cons_zero, List.set_cons_succ]
      exact rfl
    refine WQ.skip (by kernel_rfl) ?_
    refine WQ.eq (a' := ?_) ?_ ?_
    rotate_left
    · try simp only [Act.put, List.setIfInBounds_toArray, List.set_cons_zero, List.set_cons_succ]
      exact rfl
    refine WQ.skip (by kernel_rfl) ?_
    refine WQ.eq (a' := ?_) ?_ ?_
    rotate_left
    · try simp only [Act.put, List.setIfInBounds_toArray, List.set_cons_zero, List.set_cons_succ]
      exact rfl
    refine WQ.skip (by kernel_rfl) ?_
    refine WQ.eq (a' := ?_) ?_ ?_
    rotate_left
    · try simp only [Act.put, List.setIfInBounds_toArray, List.set_cons_zero, List.set_cons_succ]
      exact rfl
    refine WQ.skip (by kernel_rfl) ?_
    refine WQ.eq (a' := ?_) ?_ ?_
    rotate_left
    · try simp only [Act.put, List.setIfInBounds_toArray, List.set_cons_zero, List.set_cons_succ]
      exact rfl
    refine WQ.skip (by kernel_rfl) ?_
    refine WQ.eq (a' := ?_) ?_ ?_
    rotate_left
    · try simp only [Act.put, List.setIfInBounds_toArray, List.set_cons_zero, List.set_cons_succ]
      exact rfl
    refine WQ.gen (v := ?_) (by kernel_rfl) ?_ ?_
    rotate_left
    · intro W hC
      go_simp
      try with_reducible rfl
    refine WQ.eq (a' := ?_) ?_ ?_
    rotate_left
    · try simp only [Act.put, List.setIfInBounds_toArray, List.set_cons_zero, List.set_cons_succ]
      exact rfl
    refine WQ.gen (v := ?_) (by kernel_rfl) ?_ ?_
    rotate_left
    · intro W hC
      go_simp
      try with_reducible rfl
    refine WQ.eq (a' := ?_) ?_ ?_
    rotate_left
    · try simp only [Act.put, List.setIfInBounds_toArray, List.set_cons_zero, List.set_cons_succ]
      exact rfl
    refine WQ.skip (by kernel_rfl) ?_
    refine WQ.eq (a' := ?_) ?_ ?_
    rotate_left
    · try simp only [Act.put, List.setIfInBounds_toArray, List.set_cons_zero, List.set_cons_succ]
      exact rfl
    refine WQ.skip (by kernel_rfl) ?_
    refine WQ.eq (a' := ?_) ?_ ?_
    rotate_left
    · try simp only [Act.put, List.setIfInBounds_toArray, List.set_cons_zero, List.set_cons_succ]
      exact rfl
    refine WQ.skip (by kernel_rfl) ?_
    refine WQ.eq (a' := ?_) ?_ ?_
    rotate_left
    · try simp only [Act.put, List.setIfInBounds_toArray, List.set_cons_zero, List.set_cons_succ]
      exact rfl
    refine WQ.skip (by kernel_rfl) ?_
    refine WQ.eq (a' := ?_) ?_ ?_
    rotate_left
    · try simp only [Act.put, List.setIfInBounds_toArray, List.set_cons_zero, List.set_cons_succ]
      exact rfl
    refine WQ.skip (by kernel_rfl) ?_
    refine WQ.eq (a' := ?_) ?_ ?_
    rotate_left
    · try simp only [Act.put, List.setIfInBounds_toArray, List.set_cons_zero, List.set_cons_succ]
      exact rfl
    refine WQ.skip (by kernel_rfl) ?_
    refine WQ.eq (a' := ?_) ?_ ?_
    rotate_left
    · try simp only [Act.put, List.setIfInBounds_toArray, List.set_cons_zero, List.set_cons_succ]
      exact rfl
    refine WQ.skip (by kernel_rfl) ?_
    refine WQ.eq (a' := ?_) ?_ ?_
    rotate_left
    · try simp only [Act.put, List.setIfInBounds_toArray, List.set_cons_zero, List.set_cons_succ]
      exact rfl
    refine WQ.skip (by kernel_rfl) ?_
    refine WQ.eq (a' := ?_) ?_ ?_
    rotate_left
    · try simp only [Act.put, List.setIfInBounds_toArray, List.set_cons_zero, List.set_cons_succ]
      exact rfl
    refine WQ.gen (v := ?_) (by kernel_rfl) ?_ ?_
    rotate_left
    · intro W hC
      go_simp
      try with_reducible rfl
    refine WQ.eq (a' := ?_) ?_ ?_
    rotate_left
    · try simp only [Act.put, List.setIfInBounds_toArray, List.set_cons_zero, List.set_cons_succ]
      exact rfl
    refine WQ.gen (v := ?_) (by kernel_rfl) ?_ ?_
    rotate_left
    · intro W hC
      go_simp
      try with_reducible rfl
    refine WQ.eq (a' := ?_) ?_ ?_
    rotate_left
    · try simp only [Act.put, List.setIfInBounds_toArray, List.set_cons_zero, List.set_cons_succ]
      exact rfl
    refine WQ.nil ?_
    intro w2 hB2
    have HB2 := Lib.hid hB2
    clear hB2
    go_wp2_with fail
    go_ret
    exact ⟨by rw [HR.out]; rfl, HB2.out⟩
open Go.RowKit
set_option maxHeartbeats 4000000
set_option maxRecDepth 4000
theorem wpList_appZ {ops : Array Oper} {rest : List Oper} {o : Oper} {a : Act} {w : World} {Q : Exit → Act → World → Prop} (hgd : o.guard = none) (sl x : Operand) (tx : TypeId) (ho : o.op = .call { callee := .builtin .append, args := #[sl, x], argTypes := #[48, tx] }) (B : Nat) (v : Value) (xs : List UInt8) (hv : a.eval sl = v) (h : OwnZ B v xs w)
    (xv : Value) (hx : a.eval x = xv) (ys : List UInt8) (hs : Src Tryd.prog 1 tx xv ys.length (u8s ys) w) (hy : 0 < ys.length) (hl : xs.length + ys.length ≤ 140737488355328)
    (hK : ∀ v' w', Hid (OwnZ B v' (xs ++ ys) w') → Hid (Below B w w') → wpList Tryd.prog ops Q rest (a.put o.dst v') w') : wpList Tryd.prog ops Q (o :: rest) a w :=
  wpList_plain hgd fun _ hK' => wp_appZ sl x tx ho B v xs hv h xv hx ys hs hy hl fun v' w' h2 h3 => hK' _ _ (hK v' w' (.inr h2) h3)
theorem OwnZ.sh {B : Nat} {v : Value} {xs : List UInt8} {w : World} (h : OwnZ B v xs w) : ∃ q n c, v = .slice q n c := by
  obtain ⟨q, c, h⟩ := h.shape
  exact ⟨q, _, c, h⟩
theorem rpack6_any (s : ByteArray) (w : World) (hs : s.size ≤ 65536) :
    Calls Tryd.prog 50 #[.string s] w fun e w' => e = .returned (.string (bstr (rpk s.data.toList))) ∧ Below w.heap.size w w' := by
  obtain ⟨L, hL⟩ : ∃ L, L = s.data.toList := ⟨_, rfl⟩
  have HL := Lib.hid hL
  have HLL : Hid (L.length = s.size) := show _ = _ from by rw [hL]; rfl
  have HTH : Hid (∀ a (h : a < s.size), three (L.drop a) = decide (3 ≤ sameN s a)) := show ∀ a, _ from fun a h => by rw [hL]; exact three_same h
  have HRUN : Hid (∀ a (h : a < s.size), 3 ≤ sameN s a → rpk (L.drop a) = UInt8.ofNat (125 + sameN s a) :: s[a]'h :: rpk (L.drop (a + sameN s a))) := show ∀ a, _ from fun a h h3 => by rw [hL]; exact rpk_run_at h h3
  have HTHR : Hid (∀ (a : Nat) (W : World), a ≤ s.size → Calls Tryd.prog 76 #[.string s, .int .i64 a] W fun e w' => e = .returned (.bool (three (L.drop a))) ∧ Below W.heap.size W w') := show ∀ a W, _ from fun a W h => by rw [hL]; exact three6_any s a W (by omega) h
  rw [← hL]
  have HO0 : Hid (OwnZ w.heap.size (.slice (some ⟨w.heap.size, 0, none⟩) 0 0) [] (w.alloc (.cells #[] 5))) := show _ ∨ _ from .inr ⟨w.heap.size, 0, [], (0, 0), rfl, Nat.le_refl _, heap_alloc_new w _, rfl, by decide, .inl rfl⟩
  have HB0 := Lib.hid (bw_alloc (Below.refl w.heap.size w) (.cells #[] 5))
  clear hL
  go_enter Tryd.func50, Tryd.ntmps50
  go_wp2_with fail
  generalize w.alloc (.cells #[] 5) = w0 at *
  go_loopw [3, 4, 5] (fun b at_ n wr => ∃ (a : Nat) (q : Option Addr) (nn c : Nat) (O : List UInt8), a ≤ s.size ∧ at_ = .int .i64 a ∧ b = .slice q nn c ∧ Hid (O ++ rpk (L.drop a) = rpk L) ∧ Hid (OwnZ w.heap.size (.slice q nn c) O wr) ∧ Hid (Below w.heap.size w wr)) (fun _ at_ _ _ => s.size - (intOf at_).toNat)
  case atStart => exact ⟨0, _, _, _, [], by omega, rfl, rfl, show _ = _ from rfl, HO0, HB0⟩
  case round =>
    obtain ⟨a, q, nn, c, O, ha, rfl, rfl, HEQ, HO, HB⟩ := hrel
    have hOl : O.length ≤ 4294967296 := by
      have h1 := congrArg List.length HEQ.out
      have h2 := rpk_length L
      rw [List.length_append] at h1
      have := HLL.out
      omega
    by_cases hlt : a < s.size
    · have f0 : (0 : Int) ≤ a := by omega
      have f1 : (a : Int) < s.size := by omega
      go_wp2_with fail
      refine (HTHR.out a _ ha).mono ?_
      rintro e w1 ⟨rfl, hb1⟩
      have HO1 := Lib.hid (HO.out.below hb1 (Nat.le_refl _))
      have HB1 := Lib.hid (bw_call HB.out hb1)
      have hN := sameN_le hlt
      have HTA := Lib.hid (HTH.out a hlt)
      clear hb1
      by_cases h3 : three (L.drop a) = true
      · rw [h3]
        have H0 : Hid (∀ j (hj : a + j < s.size), j < 0 → s[a + j]'hj = s[a]'hlt) := show ∀ j, _ from fun j hj hn => absurd hn (by omega)
        have HN3 : Hid (3 ≤ sameN s a) := show _ ≤ _ from of_decide_eq_true (by rw [← HTA.out, h3])
        clear h3
        go_upto_block 2 with fail
        go_cut [5] (fun n wx => n = .int .i64 (sameN s a) ∧ Hid (Below w1.heap.size w1 wx))
        case first =>
          go_wp2_with fail
          go_loopg [5] 130 (fun gk i wr => ∃ n : Nat, n + gk = 130 ∧ a + n ≤ s.size ∧ i = .int .i64 n ∧ Hid (∀ j (hj : a + j < s.size), j < n → s[a + j]'hj = s[a]'hlt) ∧ Hid (Below w1.heap.size w1 wr))
          case atStart => exact ⟨0, by omega, by omega, rfl, H0, Below.refl _ _⟩
          case round =>
            obtain ⟨n, hn, hle, rfl, HJ, HBn⟩ := hrel
            obtain ⟨k, hk⟩ : ∃ k, k = a + n := ⟨_, rfl⟩
            have e1 : IntKind.i64.wrap ((a : Int) + n) = (k : Int) := by rw [IntWalk.i64_in _ (by omega)]; omega
            have f2 : (0 : Int) ≤ (k : Int) := by omega
            have HK := Lib.hid hk
            by_cases hlk : k < s.size
            · have d1 : decide ((k : Int) < s.size) = true := decide_eq_true (by omega)
              have f3 : (k : Int) < s.size := by omega
              by_cases h130 : n < 130
              · have d0 : decide ((n : Int) < 130) = true := decide_eq_true (by omega)
                by_cases hc : s[k]'hlk = s[a]'hlt
                · have d2 : (((s[k]'hlk).toNat : Int) == ((s[a]'hlt).toNat : Int)) = true := by rw [hc]; simp
                  have HC : Hid (∀ hj : a + n < s.size, s[a + n]'hj = s[a]'hlt) := show ∀ hj, _ from by subst hk; exact fun _ => hc
                  clear hk hc
                  go_wp2_with fail
                  refine wp_region_classW (fun W => Below w1.heap.size w1 W) (by kernel_rfl) (by kernel_rfl) HBn.out.drew ?_
                  refine WQ.gen (v := ?_) (by kernel_rfl) ?_ ?_
                  rotate_left
                  · intro W hC
                    go_simp
                    try with_reducible rfl
                  refine WQ.eq (a' := ?_) ?_ ?_
                  rotate_left
                  · try simp only [Act.put, List.setIfInBounds_toArray, List.set_cons_zero, List.set_cons_succ]
                    exact rfl
                  refine WQ.gen (v := ?_) (by kernel_rfl) ?_ ?_
                  rotate_left
                  · intro W hC
                    go_simp
                    try with_reducible rfl
                  refine WQ.eq (a' := ?_) ?_ ?_
                  rotate_left
                  · try simp only [Act.put, List.setIfInBounds_toArray, List.set_cons_zero, List.set_cons_succ]
                    exact rfl
                  refine WQ.gen (v := ?_) (by kernel_rfl) ?_ ?_
                  rotate_left
                  · intro W hC
                    go_simp
                    try with_reducible rfl
                  refine WQ.eq (a' := ?_) ?_ ?_
                  rotate_left
                  · try simp only [Act.put, List.setIfInBounds_toArray, List.set_cons_zero, List.set_cons_succ]
                    exact rfl
                  refine WQ.gen (v := ?_) (by kernel_rfl) ?_ ?_
                  rotate_left
                  · intro W hC
                    go_simp
                    try with_reducible rfl
                  refine WQ.eq (a' := ?_) ?_ ?_
                  rotate_left
                  · try simp only [Act.put, List.setIfInBounds_toArray, List.set_cons_zero, List.set_cons_succ]
                    exact rfl
                  refine WQ.gen (v := ?_) (by kernel_rfl) ?_ ?_
                  rotate_left
                  · intro W hC
                    go_simp
                    try with_reducible rfl
                  refine WQ.eq (a' := ?_) ?_ ?_
                  rotate_left
                  · try simp only [Act.put, List.setIfInBounds_toArray, List.set_cons_zero, List.set_cons_succ]
                    exact rfl
                  refine WQ.gen (v := ?_) (by kernel_rfl) ?_ ?_
                  rotate_left
                  · intro W hC
                    go_simp
                    try with_reducible rfl
                  refine WQ.eq (a' := ?_) ?_ ?_
                  rotate_left
                  · try simp only [Act.put, List.setIfInBounds_toArray, List.set_cons_zero, List.set_cons_succ]
                    exact rfl
                  refine WQ.gen (v := ?_) (by kernel_rfl) ?_ ?_
                  rotate_left
                  · intro W hC
                    go_simp
                    try with_reducible rfl
                  refine WQ.eq (a' := ?_) ?_ ?_
                  rotate_left
                  · try simp only [Act.put, List.setIfInBounds_toArray, List.set_cons_zero, List.set_cons_succ]
                    exact rfl
                  refine WQ.gen (v := ?_) (by kernel_rfl) ?_ ?_
                  rotate_left
                  · intro W hC
                    go_simp
                    try with_reducible rfl
                  refine WQ.eq (a' := ?_) ?_ ?_
                  rotate_left
                  · try simp only [Act.put, List.setIfInBounds_toArray, List.set_cons_zero, List.set_cons_succ]
                    exact rfl
                  refine WQ.gen (v := ?_) (by kernel_rfl) ?_ ?_
                  rotate_left
                  · intro W hC
                    go_simp
                    try with_reducible rfl
                  refine WQ.eq (a' := ?_) ?_ ?_
                  rotate_left
                  · try simp only [Act.put, List.setIfInBounds_toArray, List.set_cons_zero, List.set_cons_succ]
                    exact rfl
                  refine WQ.gen (v := ?_) (by kernel_rfl) ?_ ?_
                  rotate_left
                  · intro W hC
                    go_simp
                    try with_reducible rfl
                  refine WQ.eq (a' := ?_) ?_ ?_
                  rotate_left
                  · try simp only [Act.put, List.setIfInBounds_toArray, List.set_cons_zero, List.set_cons_succ]
                    exact rfl
                  refine WQ.gen (v := ?_) (by kernel_rfl) ?_ ?_
                  rotate_left
                  · intro W hC
                    go_simp
                    try with_reducible rfl
                  refine WQ.eq (a' := ?_) ?_ ?_
                  rotate_left
                  · try simp only [Act.put, List.setIfInBounds_toArray, List.set_cons_zero, List.set_cons_succ]
                    exact rfl
                  refine WQ.gen (v := ?_) (by kernel_rfl) ?_ ?_
                  rotate_left
                  · intro W hC
                    go_simp
                    try with_reducible rfl
                  refine WQ.eq (a' := ?_) ?_ ?_
                  rotate_left
                  · try simp only [Act.put, List.setIfInBounds_toArray, List.set_cons_zero, List.set_cons_succ]
                    exact rfl
                  refine WQ.gen (v := ?_) (by kernel_rfl) ?_ ?_
                  rotate_left
                  · intro W hC
                    go_simp
                    try with_reducible rfl
                  refine WQ.eq (a' := ?_) ?_ ?_
                  rotate_left
                  · try simp only [Act.put, List.setIfInBounds_toArray, List.set_cons_zero, List.set_cons_succ]
                    exact rfl
                  refine WQ.gen (v := ?_) (by kernel_rfl) ?_ ?_
                  rotate_left
                  · intro W hC
                    go_simp
                    try with_reducible rfl
                  refine WQ.eq (a' := ?_) ?_ ?_
                  rotate_left
                  · try simp only [Act.put, List.setIfInBounds_toArray, List.set_cons_zero, List.set_cons_succ]
                    exact rfl
                  refine WQ.gen (v := ?_) (by kernel_rfl) ?_ ?_
                  rotate_left
                  · intro W hC
                    go_simp
                    try with_reducible rfl
                  refine WQ.eq (a' := ?_) ?_ ?_
                  rotate_left
                  · try simp only [Act.put, List.setIfInBounds_toArray, List.set_cons_zero, List.set_cons_succ]
                    exact rfl
                  refine WQ.gen (v := ?_) (by kernel_rfl) ?_ ?_
                  rotate_left
                  · intro W hC
                    go_simp
                    try with_reducible rfl
                  refine WQ.eq (a' := ?_) ?_ ?_
                  rotate_left
                  · try simp only [Act.put, List.setIfInBounds_toArray, List.set_cons_zero, List.set_cons_succ]
                    exact rfl
                  refine WQ.gen (v := ?_) (by kernel_rfl) ?_ ?_
                  rotate_left
                  · intro W hC
                    go_simp
                    try with_reducible rfl
                  refine WQ.eq (a' := ?_) ?_ ?_
                  rotate_left
                  · try simp only [Act.put, List.setIfInBounds_toArray, List.set_cons_zero, List.set_cons_succ]
                    exact rfl
                  refine WQ.gen (v := ?_) (by kernel_rfl) ?_ ?_
                  rotate_left
                  · intro W hC
                    go_simp
                    try with_reducible rfl
                  refine WQ.eq (a' := ?_) ?_ ?_
                  rotate_left
                  · try simp only [Act.put, List.setIfInBounds_toArray, List.set_cons_zero, List.set_cons_succ]
                    exact rfl
                  refine WQ.gen (v := ?_) (by kernel_rfl) ?_ ?_
                  rotate_left
                  · intro W hC
                    go_simp
                    try with_reducible rfl
                  refine WQ.eq (a' := ?_) ?_ ?_
                  rotate_left
                  · try simp only [Act.put, List.setIfInBounds_toArray, List.set_cons_zero, List.set_cons_succ]
                    exact rfl
                  refine WQ.gen (v := ?_) (by kernel_rfl) ?_ ?_
                  rotate_left
                  · intro W hC
                    go_simp
                    try with_reducible rfl
                  refine WQ.eq (a' := ?_) ?_ ?_
                  rotate_left
                  · try simp only [Act.put, List.setIfInBounds_toArray, List.set_cons_zero, List.set_cons_succ]
                    exact rfl
                  refine WQ.gen (v := ?_) (by kernel_rfl) ?_ ?_
                  rotate_left
                  · intro W hC
                    go_simp
                    try with_reducible rfl
                  refine WQ.eq (a' := ?_) ?_ ?_
                  rotate_left
                  · try simp only [Act.put, List.setIfInBounds_toArray, List.set_cons_zero, List.set_cons_succ]
                    exact rfl
                  refine WQ.nil ?_
                  intro w2 hB2
                  have HB2 := Lib.hid hB2
                  clear hB2
                  go_wp2_with fail
                  go_roundg (gk - 1)
                  case measure => omega
                  case rel => exact ⟨n + 1, by omega, by have := HK.out; omega, by go_num, show ∀ j, _ from fun j hj hjn => (Nat.lt_succ_iff_lt_or_eq.1 hjn).elim (HJ.out j hj) (fun h => by subst h; exact HC.out hj), HB2⟩
                · have d2 : (((s[k]'hlk).toNat : Int) == ((s[a]'hlt).toNat : Int)) = false := by
                    rw [beq_eq_false_iff_ne]
                    intro h
                    exact hc (UInt8.toNat_inj.1 (by omega))
                  have HF : Hid (sameN s a = n) := show _ = _ from by subst hk; exact sameN_is hlt (by omega) hle HJ.out (.inr (.inr ⟨hlk, hc⟩))
                  clear hc hk
                  go_wp2_with fail
                  refine wp_region_classW (fun W => Below w1.heap.size w1 W) (by kernel_rfl) (by kernel_rfl) HBn.out.drew ?_
                  refine WQ.gen (v := ?_) (by kernel_rfl) ?_ ?_
                  rotate_left
                  · intro W hC
                    go_simp
                    try with_reducible rfl
                  refine WQ.eq (a' := ?_) ?_ ?_
                  rotate_left
                  · try simp only [Act.put, List.setIfInBounds_toArray, List.set_cons_zero, List.set_cons_succ]
                    exact rfl
                  refine WQ.gen (v := ?_) (by kernel_rfl) ?_ ?_
                  rotate_left
                  · intro W hC
                    go_simp
                    try with_reducible rfl
                  refine WQ.eq (a' := ?_) ?_ ?_
                  rotate_left
                  · try simp only [Act.put, List.setIfInBounds_toArray, List.set_cons_zero, List.set_cons_succ]
                    exact rfl
                  refine WQ.gen (v := ?_) (by kernel_rfl) ?_ ?_
                  rotate_left
                  · intro W hC
                    go_simp
                    try with_reducible rfl
                  refine WQ.eq (a' := ?_) ?_ ?_
                  rotate_left
                  · try simp only [Act.put, List.setIfInBounds_toArray, List.set_cons_zero, List.set_cons_succ]
                    exact rfl
                  refine WQ.gen (v := ?_) (by kernel_rfl) ?_ ?_
                  rotate_left
                  · intro W hC
                    go_simp
                    try with_reducible rfl
                  refine WQ.eq (a' := ?_) ?_ ?_
                  rotate_left
                  · try simp only [Act.put, List.setIfInBounds_toArray, List.set_cons_zero, List.set_cons_succ]
                    exact rfl
                  refine WQ.gen (v := ?_) (by kernel_rfl) ?_ ?_
                  rotate_left
                  · intro W hC
                    go_simp
                    try with_reducible rfl
                  refine WQ.eq (a' := ?_) ?_ ?_
                  rotate_left
                  · try simp only [Act.put, List.setIfInBounds_toArray, List.set_cons_zero, List.set_cons_succ]
                    exact rfl
                  refine WQ.gen (v := ?_) (by kernel_rfl) ?_ ?_
                  rotate_left
                  · intro W hC
                    go_simp
                    try with_reducible rfl
                  refine WQ.eq (a' := ?_) ?_ ?_
                  rotate_left
                  · try simp only [Act.put, List.setIfInBounds_toArray, List.set_cons_zero, List.set_cons_succ]
                    exact rfl
                  refine WQ.gen (v := ?_) (by kernel_rfl) ?_ ?_
                  rotate_left
                  · intro W hC
                    go_simp
                    try with_reducible rfl
                  refine WQ.eq (a' := ?_) ?_ ?_
                  rotate_left
                  · try simp only [Act.put, List.setIfInBounds_toArray, List.set_cons_zero, List.set_cons_succ]
                    exact rfl
                  refine WQ.gen (v := ?_) (by kernel_rfl) ?_ ?_
                  rotate_left
                  · intro W hC
                    go_simp
                    try with_reducible rfl
                  refine WQ.eq (a' := ?_) ?_ ?_
                  rotate_left
                  · try simp only [Act.put, List.setIfInBounds_toArray, List.set_cons_zero, List.set_cons_succ]
                    exact rfl
                  refine WQ.gen (v := ?_) (by kernel_rfl) ?_ ?_
                  rotate_left
                  · intro W hC
                    go_simp
                    try with_reducible rfl
                  refine WQ.eq (a' := ?_) ?_ ?_
                  rotate_left
                  · try simp only [Act.put, List.setIfInBounds_toArray, List.set_cons_zero, List.set_cons_succ]
                    exact rfl
                  refine WQ.gen (v := ?_) (by kernel_rfl) ?_ ?_
                  rotate_left
                  · intro W hC
                    go_simp
                    try with_reducible rfl
                  refine WQ.eq (a' := ?_) ?_ ?_
                  rotate_left
                  · try simp only [Act.put, List.setIfInBounds_toArray, List.set_cons_zero, List.set_cons_succ]
                    exact rfl
                  refine WQ.gen (v := ?_) (by kernel_rfl) ?_ ?_
                  rotate_left
                  · intro W hC
                    go_simp
                    try with_reducible rfl
                  refine WQ.eq (a' := ?_) ?_ ?_
                  rotate_left
                  · try simp only [Act.put, List.setIfInBounds_toArray, List.set_cons_zero, List.set_cons_succ]
                    exact rfl
                  refine WQ.gen (v := ?_) (by kernel_rfl) ?_ ?_
                  rotate_left
                  · intro W hC
                    go_simp
                    try with_reducible rfl
                  refine WQ.eq (a' := ?_) ?_ ?_
                  rotate_left
                  · try simp only [Act.put, List.setIfInBounds_toArray, List.set_cons_zero, List.set_cons_succ]
                    exact rfl
                  refine WQ.gen (v := ?_) (by kernel_rfl) ?_ ?_
                  rotate_left
                  · intro W hC
                    go_simp
                    try with_reducible rfl
                  refine WQ.eq (a' := ?_) ?_ ?_
                  rotate_left
                  · try simp only [Act.put, List.setIfInBounds_toArray, List.set_cons_zero, List.set_cons_succ]
                    exact rfl
                  refine WQ.gen (v := ?_) (by kernel_rfl) ?_ ?_
                  rotate_left
                  · intro W hC
                    go_simp
                    try with_reducible rfl
                  refine WQ.eq (a' := ?_) ?_ ?_
                  rotate_left
                  · try simp only [Act.put, List.setIfInBounds_toArray, List.set_cons_zero, List.set_cons_succ]
                    exact rfl
                  refine WQ.gen (v := ?_) (by kernel_rfl) ?_ ?_
                  rotate_left
                  · intro W hC
                    go_simp
                    try with_reducible rfl
                  refine WQ.eq (a' := ?_) ?_ ?_
                  rotate_left
                  · try simp only [Act.put, List.setIfInBounds_toArray, List.set_cons_zero, List.set_cons_succ]
                    exact rfl
                  refine WQ.gen (v := ?_) (by kernel_rfl) ?_ ?_
                  rotate_left
                  · intro W hC
                    go_simp
                    try with_reducible rfl
                  refine WQ.eq (a' := ?_) ?_ ?_
                  rotate_left
                  · try simp only [Act.put, List.setIfInBounds_toArray, List.set_cons_zero, List.set_cons_succ]
                    exact rfl
                  refine WQ.gen (v := ?_) (by kernel_rfl) ?_ ?_
                  rotate_left
                  · intro W hC
                    go_simp
                    try with_reducible rfl
                  refine WQ.eq (a' := ?_) ?_ ?_
                  rotate_left
                  · try simp only [Act.put, List.setIfInBounds_toArray, List.set_cons_zero, List.set_cons_succ]
                    exact rfl
                  refine WQ.gen (v := ?_) (by kernel_rfl) ?_ ?_
                  rotate_left
                  · intro W hC
                    go_simp
                    try with_reducible rfl
                  refine WQ.eq (a' := ?_) ?_ ?_
                  rotate_left
                  · try simp only [Act.put, List.setIfInBounds_toArray, List.set_cons_zero, List.set_cons_succ]
                    exact rfl
                  refine WQ.gen (v := ?_) (by kernel_rfl) ?_ ?_
                  rotate_left
                  · intro W hC
                    go_simp
                    try with_reducible rfl
                  refine WQ.eq (a' := ?_) ?_ ?_
                  rotate_left
                  · try simp only [Act.put, List.setIfInBounds_toArray, List.set_cons_zero, List.set_cons_succ]
                    exact rfl
                  refine WQ.gen (v := ?_) (by kernel_rfl) ?_ ?_
                  rotate_left
                  · intro W hC
                    go_simp
                    try with_reducible rfl
                  refine WQ.eq (a' := ?_) ?_ ?_
                  rotate_left
                  · try simp only [Act.put, List.setIfInBounds_toArray, List.set_cons_zero, List.set_cons_succ]
                    exact rfl
                  refine WQ.gen (v := ?_) (by kernel_rfl) ?_ ?_
                  rotate_left
                  · intro W hC
                    go_simp
                    try with_reducible rfl
                  refine WQ.eq (a' := ?_) ?_ ?_
                  rotate_left
                  · try simp only [Act.put, List.setIfInBounds_toArray, List.set_cons_zero, List.set_cons_succ]
                    exact rfl
                  refine WQ.nil ?_
                  intro w2 hB2
                  have HB2 := Lib.hid hB2
                  clear hB2
                  go_wp2_with fail
                  go_meet
                  case rel => exact ⟨by rw [HF.out], HB2⟩
              · have d0 : decide ((n : Int) < 130) = false := decide_eq_false (by omega)
                have HF : Hid (sameN s a = n) := show _ = _ from sameN_is hlt (by omega) hle HJ.out (.inl (by omega))
                clear hk
                go_wp2_with fail
                refine wp_region_classW (fun W => Below w1.heap.size w1 W) (by kernel_rfl) (by kernel_rfl) HBn.out.drew ?_
                refine WQ.gen (v := ?_) (by kernel_rfl) ?_ ?_
                rotate_left
                · intro W hC
                  go_simp
                  try with_reducible rfl
                refine WQ.eq (a' := ?_) ?_ ?_
                rotate_left
                · try simp only [Act.put, List.setIfInBounds_toArray, List.set_cons_zero, List.set_cons_succ]
                  exact rfl
                refine WQ.gen (v := ?_) (by kernel_rfl) ?_ ?_
                rotate_left
                · intro W hC
                  go_simp
                  try with_reducible rfl
                refine WQ.eq (a' := ?_) ?_ ?_
                rotate_left
                · try simp only [Act.put, List.setIfInBounds_toArray, List.set_cons_zero, List.set_cons_succ]
                  exact rfl
                refine WQ.gen (v := ?_) (by kernel_rfl) ?_ ?_
                rotate_left
                · intro W hC
                  go_simp
                  try with_reducible rfl
                refine WQ.eq (a' := ?_) ?_ ?_
                rotate_left
                · try simp only [Act.put, List.setIfInBounds_toArray, List.set_cons_zero, List.set_cons_succ]
                  exact rfl
                refine WQ.gen (v := ?_) (by kernel_rfl) ?_ ?_
                rotate_left
                · intro W hC
                  go_simp
                  try with_reducible rfl
                refine WQ.eq (a' := ?_) ?_ ?_
                rotate_left
                · try simp only [Act.put, List.setIfInBounds_toArray, List.set_cons_zero, List.set_cons_succ]
                  exact rfl
                refine WQ.gen (v := ?_) (by kernel_rfl) ?_ ?_
                rotate_left
                · intro W hC
                  go_simp
                  try with_reducible rfl
                refine WQ.eq (a' := ?_) ?_ ?_
                rotate_left
                · try simp only [Act.put, List.setIfInBounds_toArray, List.set_cons_zero, List.set_cons_succ]
                  exact rfl
                refine WQ.gen (v := ?_) (by kernel_rfl) ?_ ?_
                rotate_left
                · intro W hC
                  go_simp
                  try with_reducible rfl
                refine WQ.eq (a' := ?_) ?_ ?_
                rotate_left
                · try simp only [Act.put, List.setIfInBounds_toArray, List.set_cons_zero, List.set_cons_succ]
                  exact rfl
                refine WQ.gen (v := ?_) (by kernel_rfl) ?_ ?_
                rotate_left
                · intro W hC
                  go_simp
                  try with_reducible rfl
                refine WQ.eq (a' := ?_) ?_ ?_
                rotate_left
                · try simp only [Act.put, List.setIfInBounds_toArray, List.set_cons_zero, List.set_cons_succ]
                  exact rfl
                refine WQ.gen (v := ?_) (by kernel_rfl) ?_ ?_
                rotate_left
                · intro W hC
                  go_simp
                  try with_reducible rfl
                refine WQ.eq (a' := ?_) ?_ ?_
                rotate_left
                · try simp only [Act.put, List.setIfInBounds_toArray, List.set_cons_zero, List.set_cons_succ]
                  exact rfl
                refine WQ.gen (v := ?_) (by kernel_rfl) ?_ ?_
                rotate_left
                · intro W hC
                  go_simp
                  try with_reducible rfl
                refine WQ.eq (a' := ?_) ?_ ?_
                rotate_left
                · try simp only [Act.put, List.setIfInBounds_toArray, List.set_cons_zero, List.set_cons_succ]
                  exact rfl
                refine WQ.gen (v := ?_) (by kernel_rfl) ?_ ?_
                rotate_left
                · intro W hC
                  go_simp
                  try with_reducible rfl
                refine WQ.eq (a' := ?_) ?_ ?_
                rotate_left
                · try simp only [Act.put, List.setIfInBounds_toArray, List.set_cons_zero, List.set_cons_succ]
                  exact rfl
                refine WQ.gen (v := ?_) (by kernel_rfl) ?_ ?_
                rotate_left
                · intro W hC
                  go_simp
                  try with_reducible rfl
                refine WQ.eq (a' := ?_) ?_ ?_
                rotate_left
                · try simp only [Act.put, List.setIfInBounds_toArray, List.set_cons_zero, List.set_cons_succ]
                  exact rfl
                refine WQ.skip (by kernel_rfl) ?_
                refine WQ.eq (a' := ?_) ?_ ?_
                rotate_left
                · try simp only [Act.put, List.setIfInBounds_toArray, List.set_cons_zero, List.set_cons_succ]
                  exact rfl
                refine WQ.skip (by kernel_rfl) ?_
                refine WQ.eq (a' := ?_) ?_ ?_
                rotate_left
                · try simp only [Act.put, List.setIfInBounds_toArray, List.set_cons_zero, List.set_cons_succ]
                  exact rfl
                refine WQ.skip (by kernel_rfl) ?_
                refine WQ.eq (a' := ?_) ?_ ?_
                rotate_left
                · try simp only [Act.put, List.setIfInBounds_toArray, List.set_cons_zero, List.set_cons_succ]
                  exact rfl
                refine WQ.skip (by kernel_rfl) ?_
                refine WQ.eq (a' := ?_) ?_ ?_
                rotate_left
                · try simp only [Act.put, List.setIfInBounds_toArray, List.set_cons_zero, List.set_cons_succ]
                  exact rfl
                refine WQ.skip (by kernel_rfl) ?_
                refine WQ.eq (a' := ?_) ?_ ?_
                rotate_left
                · try simp only [Act.put, List.setIfInBounds_toArray, List.set_cons_zero, List.set_cons_succ]
                  exact rfl
                refine WQ.skip (by kernel_rfl) ?_
                refine WQ.eq (a' := ?_) ?_ ?_
                rotate_left
                · try simp only [Act.put, List.setIfInBounds_toArray, List.set_cons_zero, List.set_cons_succ]
                  exact rfl
                refine WQ.skip (by kernel_rfl) ?_
                refine WQ.eq (a' := ?_) ?_ ?_
                rotate_left
                · try simp only [Act.put, List.setIfInBounds_toArray, List.set_cons_zero, List.set_cons_succ]
                  exact rfl
                refine WQ.skip (by kernel_rfl) ?_
                refine WQ.eq (a' := ?_) ?_ ?_
                rotate_left
                · try simp only [Act.put, List.setIfInBounds_toArray, List.set_cons_zero, List.set_cons_succ]
                  exact rfl
                refine WQ.skip (by kernel_rfl) ?_
                refine WQ.eq (a' := ?_) ?_ ?_
                rotate_left
                · try simp only [Act.put, List.setIfInBounds_toArray, List.set_cons_zero, List.set_cons_succ]
                  exact rfl
                refine WQ.gen (v := ?_) (by kernel_rfl) ?_ ?_
                rotate_left
                · intro W hC
                  go_simp
                  try with_reducible rfl
                refine WQ.eq (a' := ?_) ?_ ?_
                rotate_left
                · try simp only [Act.put, List.setIfInBounds_toArray, List.set_cons_zero, List.set_cons_succ]
                  exact rfl
                refine WQ.nil ?_
                intro w2 hB2
                have HB2 := Lib.hid hB2
                clear hB2
                go_wp2_with fail
                go_meet
                case rel => exact ⟨by rw [HF.out], HB2⟩
            · have d1 : decide ((k : Int) < s.size) = false := decide_eq_false (by omega)
              have HF : Hid (sameN s a = n) := show _ = _ from sameN_is hlt (by omega) hle HJ.out (.inr (.inl (by omega)))
              clear hk
              go_wp2_with fail
              refine wp_region_classW (fun W => Below w1.heap.size w1 W) (by kernel_rfl) (by kernel_rfl) HBn.out.drew ?_
              refine WQ.gen (v := ?_) (by kernel_rfl) ?_ ?_
              rotate_left
              · intro W hC
                go_simp
                try with_reducible rfl
              refine WQ.eq (a' := ?_) ?_ ?_
              rotate_left
              · try simp only [Act.put, List.setIfInBounds_toArray, List.set_cons_zero, List.set_cons_succ]
                exact rfl
              refine WQ.gen (v := ?_) (by kernel_rfl) ?_ ?_
              rotate_left
              · intro W hC
                go_simp
                try with_reducible rfl
              refine WQ.eq (a' := ?_) ?_ ?_
              rotate_left
              · try simp only [Act.put, List.setIfInBounds_toArray, List.set_cons_zero, List.set_cons_succ]
                exact rfl
              refine WQ.gen (v := ?_) (by kernel_rfl) ?_ ?_
              rotate_left
              · intro W hC
                go_simp
                try with_reducible rfl
              refine WQ.eq (a' := ?_) ?_ ?_
              rotate_left
              · try simp only [Act.put, List.setIfInBounds_toArray, List.set_cons_zero, List.set_cons_succ]
                exact rfl
              refine WQ.gen (v := ?_) (by kernel_rfl) ?_ ?_
              rotate_left
              · intro W hC
                go_simp
                try with_reducible rfl
              refine WQ.eq (a' := ?_) ?_ ?_
              rotate_left
              · try simp only [Act.put, List.setIfInBounds_toArray, List.set_cons_zero, List.set_cons_succ]
                exact rfl
              refine WQ.gen (v := ?_) (by kernel_rfl) ?_ ?_
              rotate_left
              · intro W hC
                go_simp
                try with_reducible rfl
              refine WQ.eq (a' := ?_) ?_ ?_
              rotate_left
              · try simp only [Act.put, List.setIfInBounds_toArray, List.set_cons_zero, List.set_cons_succ]
                exact rfl
              refine WQ.gen (v := ?_) (by kernel_rfl) ?_ ?_
              rotate_left
              · intro W hC
                go_simp
                try with_reducible rfl
              refine WQ.eq (a' := ?_) ?_ ?_
              rotate_left
              · try simp only [Act.put, List.setIfInBounds_toArray, List.set_cons_zero, List.set_cons_succ]
                exact rfl
              refine WQ.gen (v := ?_) (by kernel_rfl) ?_ ?_
              rotate_left
              · intro W hC
                go_simp
                try with_reducible rfl
              refine WQ.eq (a' := ?_) ?_ ?_
              rotate_left
              · try simp only [Act.put, List.setIfInBounds_toArray, List.set_cons_zero, List.set_cons_succ]
                exact rfl
              refine WQ.skip (by kernel_rfl) ?_
              refine WQ.eq (a' := ?_) ?_ ?_
              rotate_left
              · try simp only [Act.put, List.setIfInBounds_toArray, List.set_cons_zero, List.set_cons_succ]
                exact rfl
              refine WQ.skip (by kernel_rfl) ?_
              refine WQ.eq (a' := ?_) ?_ ?_
              rotate_left
              · try simp only [Act.put, List.setIfInBounds_toArray, List.set_cons_zero, List.set_cons_succ]
                exact rfl
              refine WQ.gen (v := ?_) (by kernel_rfl) ?_ ?_
              rotate_left
              · intro W hC
                go_simp
                try with_reducible rfl
              refine WQ.eq (a' := ?_) ?_ ?_
              rotate_left
              · try simp only [Act.put, List.setIfInBounds_toArray, List.set_cons_zero, List.set_cons_succ]
                exact rfl
              refine WQ.gen (v := ?_) (by kernel_rfl) ?_ ?_
              rotate_left
              · intro W hC
                go_simp
                try with_reducible rfl
              refine WQ.eq (a' := ?_) ?_ ?_
              rotate_left
              · try simp only [Act.put, List.setIfInBounds_toArray, List.set_cons_zero, List.set_cons_succ]
                exact rfl
              refine WQ.skip (by kernel_rfl) ?_
              refine WQ.eq (a' := ?_) ?_ ?_
              rotate_left
              · try simp only [Act.put, List.setIfInBounds_toArray, List.set_cons_zero, List.set_cons_succ]
                exact rfl
              refine WQ.skip (by kernel_rfl) ?_
              refine WQ.eq (a' := ?_) ?_ ?_
              rotate_left
              · try simp only [Act.put, List.setIfInBounds_toArray, List.set_cons_zero, List.set_cons_succ]
                exact rfl
              refine WQ.skip (by kernel_rfl) ?_
              refine WQ.eq (a' := ?_) ?_ ?_
              rotate_left
              · try simp only [Act.put, List.setIfInBounds_toArray, List.set_cons_zero, List.set_cons_succ]
                exact rfl
              refine WQ.skip (by kernel_rfl) ?_
              refine WQ.eq (a' := ?_) ?_ ?_
              rotate_left
              · try simp only [Act.put, List.setIfInBounds_toArray, List.set_cons_zero, List.set_cons_succ]
                exact rfl
              refine WQ.skip (by kernel_rfl) ?_
              refine WQ.eq (a' := ?_) ?_ ?_
              rotate_left
              · try simp only [Act.put, List.setIfInBounds_toArray, List.set_cons_zero, List.set_cons_succ]
                exact rfl
              refine WQ.skip (by kernel_rfl) ?_
              refine WQ.eq (a' := ?_) ?_ ?_
              rotate_left
              · try simp only [Act.put, List.setIfInBounds_toArray, List.set_cons_zero, List.set_cons_succ]
                exact rfl
              refine WQ.skip (by kernel_rfl) ?_
              refine WQ.eq (a' := ?_) ?_ ?_
              rotate_left
              · try simp only [Act.put, List.setIfInBounds_toArray, List.set_cons_zero, List.set_cons_succ]
                exact rfl
              refine WQ.skip (by kernel_rfl) ?_
              refine WQ.eq (a' := ?_) ?_ ?_
              rotate_left
              · try simp only [Act.put, List.setIfInBounds_toArray, List.set_cons_zero, List.set_cons_succ]
                exact rfl
              refine WQ.skip (by kernel_rfl) ?_
              refine WQ.eq (a' := ?_) ?_ ?_
              rotate_left
              · try simp only [Act.put, List.setIfInBounds_toArray, List.set_cons_zero, List.set_cons_succ]
                exact rfl
              refine WQ.gen (v := ?_) (by kernel_rfl) ?_ ?_
              rotate_left
              · intro W hC
                go_simp
                try with_reducible rfl
              refine WQ.eq (a' := ?_) ?_ ?_
              rotate_left
              · try simp only [Act.put, List.setIfInBounds_toArray, List.set_cons_zero, List.set_cons_succ]
                exact rfl
              refine WQ.nil ?_
              intro w2 hB2
              have HB2 := Lib.hid hB2
              clear hB2
              go_wp2_with fail
              go_meet
              case rel => exact ⟨by rw [HF.out], HB2⟩
        case rest =>
          obtain ⟨rfl, HB2⟩ := hcut
          generalize wc = w2 at *
          have HO2 := Lib.hid (HO1.out.below HB2.out (Nat.le_refl _))
          have HW2 := Lib.hid (bw_call HB1.out HB2.out)
          have HRA := Lib.hid (HRUN.out a hlt HN3.out)
          obtain ⟨N, hNN⟩ : ∃ N, N = sameN s a := ⟨_, rfl⟩
          rw [← hNN] at hN HRA ⊢
          clear hNN HTA H0 HN3
          obtain ⟨M, hM⟩ : ∃ M, M = 125 + N := ⟨_, rfl⟩
          have e5 : IntKind.i64.wrap (125 + (N : Int)) = (M : Int) := by rw [IntWalk.i64_in _ (by omega)]; omega
          have e6 : IntKind.u8.wrap (M : Int) = M := IntWalk.u8_in _ (by omega)
          have HMC : Hid ((M : Int) = ((UInt8.ofNat M).toNat : Int)) := show _ = _ from by rw [UInt8.toNat_ofNat_of_lt' (show M < 256 by omega)]
          have HRA2 : Hid (rpk (L.drop a) = UInt8.ofNat M :: s[a]'hlt :: rpk (L.drop (a + N))) := show _ = _ from by rw [hM]; exact HRA.out
          have HN := Lib.hid hN
          obtain ⟨an, han⟩ : ∃ y, y = a + N := ⟨_, rfl⟩
          have e7 : IntKind.i64.wrap ((a : Int) + N) = (an : Int) := by rw [IntWalk.i64_in _ (by omega)]; omega
          have HOA := Lib.hid (HO2.out.below (bw_alloc (Below.refl w2.heap.size w2) (.cells #[.int .u8 (M : Int), .int .u8 ((s[a]'hlt).toNat : Int)] 5)) (Nat.le_refl _))
          have HWA := Lib.hid (bw_alloc HW2.out (.cells #[.int .u8 (M : Int), .int .u8 ((s[a]'hlt).toNat : Int)] 5))
          have HAN := Lib.hid han
          rw [← han] at HRA2
          clear hM hN HRA han
          go_wp2_with ((at_builtin; refine wpList_appZ rfl (.tmp 37) (.tmp 44) 48 rfl w.heap.size (.slice q nn c) O rfl HOA.out _ rfl [UInt8.ofNat M, s[a]'hlt] (byte_src2 HMC.out rfl (heap_alloc_new w2 _)) Nat.two_pos (by simp; omega) ?_); intro v6 w6 HO6 HB6)
          obtain ⟨q6, n6, c6, rfl⟩ : ∃ q n c, v6 = .slice q n c := by
            obtain ⟨q, c, h⟩ := HO6.out.shape
            exact ⟨q, _, c, h⟩
          have HW6 := Lib.hid (HWA.out.trans HB6.out)
          have HEQ6 : Hid ((O ++ [UInt8.ofNat M, s[a]'hlt]) ++ rpk (L.drop an) = rpk L) := show _ = _ from by rw [← HEQ.out, HRA2.out, List.append_assoc]; rfl
          go_wp2_with fail
          go_roundw
          case rel => exact ⟨an, q6, n6, c6, _, by have := HN.out; have := HAN.out; omega, by go_num, rfl, HEQ6, HO6, HW6⟩
          case measure => simp [intOf]; have := HN.out; have := HAN.out; omega
      · have h3f : three (L.drop a) = false := by simpa using h3
        rw [h3f]
        have H3 := Lib.hid h3f
        have HSTR : Hid (∀ n, 1 ≤ n → n ≤ 128 → a + n ≤ s.size → (∀ j, a ≤ j → j < a + n → three (L.drop j) = false) → (n = 128 ∨ a + n = s.size ∨ three (L.drop (a + n)) = true) → rpk (L.drop a) = UInt8.ofNat (n - 1) :: ((L.drop a).take n ++ rpk (L.drop (a + n)))) := show ∀ n, _ from fun n h1 h2 h4 h5 h6 => by
          have h7 := rpk_stretch (s := L) (f := a) (a := a + n) (by omega) (by rw [HLL.out]; exact h4) (by omega) h5 (by rw [Nat.add_sub_cancel_left, HLL.out]; exact h6)
          rw [Nat.add_sub_cancel_left] at h7
          exact h7
        clear h3 h3f HTA
        go_upto_block 4 with fail
        go_cut [5] (fun v wx => ∃ n : Nat, v = .int .i64 n ∧ 1 ≤ n ∧ n ≤ 128 ∧ a + n ≤ s.size ∧ Hid (rpk (L.drop a) = UInt8.ofNat (n - 1) :: ((L.drop a).take n ++ rpk (L.drop (a + n)))) ∧ Hid (Below w1.heap.size w1 wx))
        case first =>
          have H0 : Hid (∀ j, a ≤ j → j < a + 0 → three (L.drop j) = false) := show ∀ j, _ from fun j h1 h2 => absurd h2 (by omega)
          go_wp2_with fail
          go_loopg [5] 128 (fun gk i wr => ∃ n : Nat, n + gk = 128 ∧ a + n ≤ s.size ∧ i = .int .i64 n ∧ Hid (∀ j, a ≤ j → j < a + n → three (L.drop j) = false) ∧ Hid (Below w1.heap.size w1 wr))
          case atStart => exact ⟨0, by omega, by omega, rfl, H0, Below.refl _ _⟩
          case round =>
            obtain ⟨n, hn, hle, rfl, HJ, HBn⟩ := hrel
            obtain ⟨k, hk⟩ : ∃ k, k = a + n := ⟨_, rfl⟩
            have e1 : IntKind.i64.wrap ((a : Int) + n) = (k : Int) := by rw [IntWalk.i64_in _ (by omega)]; omega
            by_cases hlk : k < s.size
            · have d1 : decide ((k : Int) < s.size) = true := decide_eq_true (by omega)
              by_cases h128 : n < 128
              · have d0 : decide ((n : Int) < 128) = true := decide_eq_true (by omega)
                have HK := Lib.hid hk
                clear hk
                go_wp2_with fail
                refine (HTHR.out k _ (by omega)).mono ?_
                rintro e w3 ⟨rfl, hb3⟩
                have HB3 := Lib.hid (bw_call HBn.out hb3)
                clear hb3
                by_cases ht : three (L.drop k) = true
                · rw [ht]
                  have hn1 : 1 ≤ n := by
                    rcases Nat.eq_zero_or_pos n with h | h
                    · exfalso
                      have h5 := HK.out
                      rw [h, Nat.add_zero] at h5
                      rw [h5, H3.out] at ht
                      cases ht
                    · exact h
                  have HF := Lib.hid (HSTR.out n hn1 (by omega) hle HJ.out (.inr (.inr (by rw [← HK.out]; exact ht))))
                  clear ht
                  go_wp2_with fail
                  go_meet
                  case rel => exact ⟨n, rfl, hn1, by omega, hle, HF, HB3⟩
                · rw [show three (L.drop k) = false by simpa using ht]
                  have HJ2 : Hid (∀ j, a ≤ j → j < a + (n + 1) → three (L.drop j) = false) := show ∀ j, _ from fun j h1 h2 => by
                    by_cases h5 : j < a + n
                    · exact HJ.out j h1 h5
                    · rw [show j = k by have := HK.out; omega]
                      simpa using ht
                  clear ht
                  go_wp2_with fail
                  go_roundg (gk - 1)
                  case measure => omega
                  case rel => exact ⟨n + 1, by omega, by have := HK.out; omega, by go_num, HJ2, HB3⟩
              · have d0 : decide ((n : Int) < 128) = false := decide_eq_false (by omega)
                have HF := Lib.hid (HSTR.out n (by omega) (by omega) hle HJ.out (.inl (by omega)))
                clear hk
                go_wp2_with fail
                go_meet
                case rel => exact ⟨n, rfl, by omega, by omega, hle, HF, HBn⟩
            · have d1 : decide ((k : Int) < s.size) = false := decide_eq_false (by omega)
              have HF := Lib.hid (HSTR.out n (by omega) (by omega) hle HJ.out (.inr (.inl (by omega))))
              have hn1 : 1 ≤ n := by omega
              clear hk
              go_wp2_with fail
              go_meet
              case rel => exact ⟨n, rfl, hn1, by omega, hle, HF, HBn⟩
        case rest =>
          obtain ⟨n, rfl, hn1, hn128, hle, HF, HB2⟩ := hcut
          generalize wc = w2 at *
          have HO2 := Lib.hid (HO1.out.below HB2.out (Nat.le_refl _))
          have HW2 := Lib.hid (bw_call HB1.out HB2.out)
          obtain ⟨d, hd⟩ : ∃ d, n = d + 1 := ⟨n - 1, by omega⟩
          have e5 : IntKind.i64.wrap ((n : Int) - 1) = (d : Int) := by rw [IntWalk.i64_in _ (by omega)]; omega
          have e6 : IntKind.u8.wrap (d : Int) = d := IntWalk.u8_in _ (by omega)
          have HDC : Hid ((d : Int) = ((UInt8.ofNat d).toNat : Int)) := show _ = _ from by rw [UInt8.toNat_ofNat_of_lt' (show d < 256 by omega)]
          obtain ⟨an, han⟩ : ∃ y, y = a + n := ⟨_, rfl⟩
          have e7 : IntKind.i64.wrap ((a : Int) + n) = (an : Int) := by rw [IntWalk.i64_in _ (by omega)]; omega
          have f2 : a ≤ an := by omega
          have f3 : (a : Int) ≤ an := by omega
          have f4 : (an : Int) ≤ s.size := by omega
          have HF2 : Hid (rpk (L.drop a) = UInt8.ofNat d :: ((L.drop a).take n ++ rpk (L.drop an))) := show _ = _ from by rw [HF.out, han, show n - 1 = d by omega]
          have HOA := Lib.hid (HO2.out.below (bw_alloc (Below.refl w2.heap.size w2) (.cells #[.int .u8 (d : Int)] 5)) (Nat.le_refl _))
          have HWA := Lib.hid (bw_alloc HW2.out (.cells #[.int .u8 (d : Int)] 5))
          have HXE : Hid ((s.extract a an).data.toList = (L.drop a).take n) := show _ = _ from by rw [ByteArray.data_extract, Array.toList_extract, HL.out]; show List.take (an - a) _ = _; rw [show an - a = n by omega]
          have HXL : Hid ((s.extract a an).data.toList.length = n) := show _ = _ from by
            rw [HXE.out, List.length_take, List.length_drop, HLL.out]; omega
          have HXP : Hid (0 < (s.extract a an).data.toList.length) := show _ < _ from by rw [HXL.out]; omega
          have HAN := Lib.hid han
          clear hd han HF
          go_wp2_with (first
            | ((at_builtin; refine wpList_appZ rfl (.tmp 66) (.tmp 70) 48 rfl w.heap.size (.slice q nn c) O rfl HOA.out _ rfl [UInt8.ofNat d] (byte_src HDC.out (heap_alloc_new w2 _)) Nat.one_pos (by simp; omega) ?_); intro v5 w5 HO5 HB5; obtain ⟨q5, n5, c5, rfl⟩ := OwnZ.sh HO5.out; have HW5 := Lib.hid (HWA.out.trans HB5.out))
            | ((at_builtin; refine wpList_appZ rfl (.tmp 72) (.tmp 78) 9 rfl w.heap.size (.slice q5 n5 c5) (O ++ [UInt8.ofNat d]) rfl HO5.out _ rfl (s.extract a an).data.toList (Src.ofString w5 Tryd.underlying9 (s.extract a an)) HXP.out (by rw [HXL.out]; simp; omega) ?_); intro v6 w6 HO6 HB6))
          obtain ⟨q6, n6, c6, rfl⟩ : ∃ q n c, v6 = .slice q n c := by
            obtain ⟨q, c, h⟩ := HO6.out.shape
            exact ⟨q, _, c, h⟩
          have HW6 := Lib.hid (HW5.out.trans HB6.out)
          have HEQ6 : Hid ((O ++ [UInt8.ofNat d] ++ (s.extract a an).data.toList) ++ rpk (L.drop an) = rpk L) := show _ = _ from by rw [← HEQ.out, HF2.out, HXE.out]; simp [List.append_assoc]
          go_wp2_with fail
          go_roundw
          case rel => exact ⟨an, q6, n6, c6, _, by omega, by go_num, rfl, HEQ6, HO6, HW6⟩
          case measure => simp [intOf]; have := HAN.out; omega
    · obtain rfl : a = s.size := by omega
      have hcv : (convert 48 9 (.slice q nn c)).run Tryd.prog wr = .ok (.string (bstr (rpk L))) wr := by
        have h1 := HO.out.conv
        have hnil : rpk (L.drop s.size) = [] := by rw [← HLL.out, List.drop_length]; rfl
        have h2 := HEQ.out
        rw [hnil, List.append_nil] at h2
        rw [h2] at h1
        exact h1
      go_wp2_with fail
      go_ret
      exact ⟨rfl, HB.out⟩
open Go.RowKit
set_option maxHeartbeats 1000000
theorem setCells_other : ∀ (vs : List Value) (b o : Nat) (w : World) {k : Nat}, k ≠ b → (w.setCells b o vs).heap[k]? = w.heap[k]?
  | [], _, _, _, _, _ => rfl
  | v :: vs, b, o, w, _k, h => (setCells_other vs b (o + 1) (w.setCell ⟨b, o, none⟩ v) h).trans (heap_setCell_other _ _ _ _ h)
theorem run_app2 {B : Nat} {v : Value} {xs : List UInt8} {w : World} (h : OwnB B v xs w) {tx : TypeId} {x : Value} {ys : List UInt8} (hs : Src Tryd.prog 1 tx x ys.length (u8s ys) w) (hl : xs.length + ys.length ≤ 140737488355328) (ty : TypeId) :
    ∃ v' w', (Builtin.append_ #[48, tx] ty #[v, x]).run Tryd.prog w = .ok v' w' ∧ OwnB B v' (xs ++ ys) w' ∧ Below B w w' ∧ (∀ k, k < w.heap.size → v.ownBlock ≠ some k → w'.heap[k]? = w.heap[k]?) ∧ OwnNew w v v' := by
  obtain ⟨v', w', hr, h2, h3⟩ := run_app h hs hl ty
  refine ⟨v', w', hr, h2, h3, ?_⟩
  obtain ⟨g, cap, rest, fr, rfl, hg, hh, hcap, hmax, hfr⟩ := h
  by_cases hroom : xs.length + ys.length ≤ cap
  · have hlen : (u8s xs ++ rest).length = cap := by rw [List.length_append, u8s_length, hcap]
    have hr2 := run_append_room_src (P := Tryd.prog) w 48 tx ty 5 _ Tryd.underlying48 byte_info g 0 xs.length cap x ys.length (u8s ys) hs hroom
      (fun j hj => by
        rw [u8s_length] at hj
        rw [cell_of_row w g _ _ _ _ hh, List.getElem?_toArray, List.getElem?_eq_getElem (by rw [hlen]; simp; omega)]
        rfl)
      (fun j hj => by
        rw [u8s_length] at hj
        obtain ⟨lo, hi⟩ := fr
        simp only [World.frozen?, hh, Bool.and_eq_false_iff, decide_eq_false_iff_not]
        simp only at hfr
        rcases hfr with hfr | hfr
        · right; omega
        · left; simp; omega)
    rw [hr] at hr2
    obtain ⟨rfl, rfl⟩ := Result.ok.inj hr2
    exact ⟨fun k _ hk => setCells_other _ _ _ _ (fun e => hk (by rw [e]; rfl)), fun k hk => .inl hk⟩
  · have hold : (Builtin.firstCells 1 xs.length (.slice (some ⟨g, 0, none⟩) xs.length cap)).run Tryd.prog w.drew = .ok (u8s xs).toArray w.drew :=
      run_firstCells_some (P := Tryd.prog) w.drew 1 xs.length ⟨g, 0, none⟩ xs.length cap (u8s xs) (by rw [u8s_length, Nat.mul_one]) (fun j u hj => by
        have hadd : (⟨g, 0, none⟩ : Addr).add j = ⟨g, j, none⟩ := by unfold Addr.add; split <;> simp_all
        rw [hadd]
        show w.cell? ⟨g, j, none⟩ = _
        rw [cell_of_row w g _ _ _ _ hh, List.getElem?_toArray, List.getElem?_append_left (List.getElem?_eq_some_iff.1 hj).1]
        exact hj)
    have hr2 := run_append_grow_src (P := Tryd.prog) w 48 tx ty 5 _ (.int .u8 0) Tryd.underlying48 byte_info rfl (some ⟨g, 0, none⟩) xs.length cap (u8s xs) hold x ys.length (u8s ys) hs (by omega) (by omega)
      (growslice_fits (by omega) (by show _ * 1 ≤ _; omega))
    rw [hr] at hr2
    obtain ⟨rfl, rfl⟩ := Result.ok.inj hr2
    refine ⟨fun k hk _ => (((Below.refl w.heap.size w).drew).alloc (Nat.le_refl _) _).block k hk, fun k hk => ?_⟩
    simp [Value.ownBlock] at hk
    omega
theorem run_appZ2 {B : Nat} {v : Value} {xs : List UInt8} {w : World} (h : OwnZ B v xs w) {tx : TypeId} {x : Value} {ys : List UInt8} (hs : Src Tryd.prog 1 tx x ys.length (u8s ys) w) (hy : 0 < ys.length) (hl : xs.length + ys.length ≤ 140737488355328) (ty : TypeId) :
    ∃ v' w', (Builtin.append_ #[48, tx] ty #[v, x]).run Tryd.prog w = .ok v' w' ∧ OwnB B v' (xs ++ ys) w' ∧ Below B w w' ∧ (∀ k, k < w.heap.size → v.ownBlock ≠ some k → w'.heap[k]? = w.heap[k]?) ∧ OwnNew w v v' := by
  rcases h with ⟨rfl, rfl, hB⟩ | h
  · obtain ⟨v', w', hr, h2, h3⟩ := run_appZ (B := w.heap.size) (.inl ⟨rfl, rfl, Nat.le_refl _⟩) hs hy hl ty
    refine ⟨v', w', hr, h2.mono hB, h3.mono hB, fun k hk _ => h3.block k hk, fun k hk => ?_⟩
    obtain ⟨g, cap, rest, fr, rfl, hg, -⟩ := h2
    simp [Value.ownBlock] at hk
    omega
  · exact run_app2 h hs hl ty
/-- two rows side by side -/
structure Two (B : Nat) (v : Value) (xs : List UInt8) (u : Value) (ys : List UInt8) (w : World) : Prop where
  one : OwnZ B v xs w
  two : OwnZ B u ys w
  ne : ∀ k, v.ownBlock = some k → u.ownBlock ≠ some k
theorem Two.swap {B : Nat} {v : Value} {xs : List UInt8} {u : Value} {ys : List UInt8} {w : World} (h : Two B v xs u ys w) : Two B u ys v xs w := ⟨h.two, h.one, fun k h1 h2 => h.ne k h2 h1⟩
theorem Two.below {B C : Nat} {v : Value} {xs : List UInt8} {u : Value} {ys : List UInt8} {w w' : World} (h : Two B v xs u ys w) (hb : Below C w w') (hC : w.heap.size ≤ C) : Two B v xs u ys w' := ⟨h.one.below hb hC, h.two.below hb hC, h.ne⟩
theorem OwnZ.lt_size {B k : Nat} {v : Value} {xs : List UInt8} {w : World} (h : OwnZ B v xs w) (hk : v.ownBlock = some k) : k < w.heap.size := by
  rcases h with ⟨rfl, -, -⟩ | ⟨g, cap, rest, fr, rfl, hg, hh, -⟩
  · simp [Value.ownBlock] at hk
  · simp [Value.ownBlock] at hk
    subst hk
    exact block_lt hh
theorem OwnZ.keep {B : Nat} {v : Value} {xs : List UInt8} {w w' : World} (h : OwnZ B v xs w) (hs : w.heap.size ≤ w'.heap.size) (hk : ∀ k, v.ownBlock = some k → w'.heap[k]? = w.heap[k]?) : OwnZ B v xs w' := by
  rcases h with ⟨rfl, rfl, hB⟩ | ⟨g, cap, rest, fr, rfl, hg, hh, r⟩
  · exact .inl ⟨rfl, rfl, Nat.le_trans hB hs⟩
  · exact .inr ⟨g, cap, rest, fr, rfl, hg, (hk g rfl).trans hh, r⟩
/-- a new empty row beside one -/
theorem Two.fresh {B : Nat} {v : Value} {xs : List UInt8} {w : World} (h : OwnZ B v xs w) : Two B v xs (.slice (some ⟨w.heap.size, 0, none⟩) 0 0) [] (w.alloc (.cells #[] 5)) := by
  refine ⟨h.below (bw_alloc (Below.refl w.heap.size w) _) (Nat.le_refl _), .inr ⟨w.heap.size, 0, [], (0, 0), rfl, h.lt, heap_alloc_new w _, rfl, by decide, .inl rfl⟩, fun k hk hk2 => ?_⟩
  have := h.lt_size hk
  simp [Value.ownBlock] at hk2
  omega
/-- the row as what is laid behind another -/
theorem OwnZ.src {B : Nat} {v : Value} {xs : List UInt8} {w : World} (h : OwnZ B v xs w) (h0 : 0 < xs.length) : Src Tryd.prog 1 48 v xs.length (u8s xs) w := by
  rcases h with ⟨-, rfl, -⟩ | ⟨g, cap, rest, fr, rfl, hg, hh, -⟩
  · simp at h0
  · refine Src.ofSlice w Tryd.underlying48 ⟨g, 0, none⟩ xs.length cap (u8s xs) (by rw [u8s_length, Nat.mul_one]) (fun j y hj => ?_) (u8s_one _)
    have hadd : (⟨g, 0, none⟩ : Addr).add j = ⟨g, j, none⟩ := by unfold Addr.add; split <;> simp_all
    rw [hadd, cell_of_row w g _ _ _ _ hh, List.getElem?_toArray, List.getElem?_append_left (List.getElem?_eq_some_iff.1 hj).1]
    exact hj
theorem wpList_appTwo {ops : Array Oper} {rest : List Oper} {o : Oper} {a : Act} {w : World} {Q : Exit → Act → World → Prop} (hgd : o.guard = none) (sl x : Operand) (tx : TypeId) (ho : o.op = .call { callee := .builtin .append, args := #[sl, x], argTypes := #[48, tx] }) (B : Nat) (v : Value) (xs : List UInt8) (u : Value) (zs : List UInt8) (hv : a.eval sl = v) (h : Two B v xs u zs w)
    (xv : Value) (hx : a.eval x = xv) (ys : List UInt8) (hs : Src Tryd.prog 1 tx xv ys.length (u8s ys) w) (hy : 0 < ys.length) (hl : xs.length + ys.length ≤ 140737488355328)
    (hK : ∀ v' w', Hid (Two B v' (xs ++ ys) u zs w') → Hid (Below B w w') → wpList Tryd.prog ops Q rest (a.put o.dst v') w') : wpList Tryd.prog ops Q (o :: rest) a w := by
  refine wpList_plain hgd fun K hK' => ?_
  obtain ⟨v', w', hr, h2, h3, h4, h5⟩ := run_appZ2 h.one hs hy hl o.type
  unfold Oper.wp execOp
  simp only [ho, resolve, invoke, builtin, Sem.run_bind, Sem.run_pure, Result.andThen_ok, List.map_toArray, List.map_cons, List.map_nil, hv, hx, hr]
  refine hK' _ _ (hK v' w' ⟨.inr h2, h.two.keep h3.size fun k hk => h4 k (h.two.lt_size hk) fun hk2 => h.ne k hk2 hk, fun k hk hk2 => ?_⟩ h3)
  rcases h5 k hk with h6 | h6
  · exact h.ne k h6 hk2
  · have := h.two.lt_size hk2
    omega
end Go.Proofs.YtbeooeihedhabaaDoor
