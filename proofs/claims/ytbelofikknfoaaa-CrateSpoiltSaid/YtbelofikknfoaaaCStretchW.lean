/- window.Pack's closure 'stretch': what the call does. -/
import Derived.Test.YtbelofikknfoaaaCNoteW
import Derived.Test.YtbelofikknfoaaaCWin
namespace Go.Proofs.Ytbelofikknfoaaa
open Go.RowKit
set_option maxHeartbeats 2000000
set_option maxRecDepth 4000
theorem wp_appZ2 {o : Oper} {a : Act} {w : World} {K : Act → World → Prop} {Q : Exit → Act → World → Prop} (sl x : Operand) (tx : TypeId) (ho : o.op = .call { callee := .builtin .append, args := #[sl, x], argTypes := #[34, tx] }) (B : Nat) (v : Value) (xs : List UInt8) (hv : a.eval sl = v) (h : OwnZ B v xs w)
    (xv : Value) (hx : a.eval x = xv) (ys : List UInt8) (hs : Src Try.prog 1 tx xv ys.length (u8s ys) w) (hy : 0 < ys.length) (hl : xs.length + ys.length ≤ 140737488355328)
    (hK : ∀ v' w', OwnB B v' (xs ++ ys) w' → Below B w w' → (∀ k, k < w.heap.size → v.ownBlock ≠ some k → w'.heap[k]? = w.heap[k]?) → OwnNew w v v' → K (a.put o.dst v') w') : o.wp Try.prog a w K Q := by
  obtain ⟨v', w', hr, h2, h3, h4, h5⟩ := run_appZ2 h hs hy hl o.type
  unfold Oper.wp execOp
  simp only [ho, resolve, invoke, builtin, Sem.run_bind, Sem.run_pure, Result.andThen_ok, List.map_toArray, List.map_cons, List.map_nil, hv, hx, hr]
  exact hK v' w' h2 h3 h4 h5
/-- the closure's cells: from, out, the text -/
structure StW (B : Nat) (W : World) (bf bo bk : Nat) (K : ByteArray) (F : Nat) (v : Value) (O : List UInt8) : Prop where
  f : W.heap[bf]? = some (.cells #[.int .i64 F] 3 (0, 0))
  o : W.heap[bo]? = some (.cells #[v] 34 (0, 0))
  k : W.heap[bk]? = some (.cells #[.string K] 9 (0, 0))
  own : OwnZ B v O W
/-- what a step of out does -/
structure SwTurn (W W' : World) (bo : Nat) (v v' : Value) : Prop where
  os : W'.os = W.os
  tape : W'.tape = W.tape
  output : W'.output = W.output
  size : W.heap.size ≤ W'.heap.size
  block : ∀ k, k < W.heap.size → k ≠ bo → v.ownBlock ≠ some k → W'.heap[k]? = W.heap[k]?
  new : OwnNew W v v'
theorem SwTurn.refl (w : World) (bo : Nat) (v : Value) : SwTurn w w bo v v := ⟨rfl, rfl, rfl, Nat.le_refl _, fun _ _ _ _ => rfl, fun _ h => .inl h⟩
theorem OwnZ.row_ne {B b g : Nat} {v : Value} {xs : List UInt8} {w : World} {cs : Array Value} {t : TypeId} {fr : Nat × Nat} (h : OwnZ B v xs w) (hg : v.ownBlock = some g) (hb : w.heap[b]? = some (.cells cs t fr)) (ht : t ≠ 5) : g ≠ b := by
  intro e
  subst e
  rcases h with ⟨rfl, -, -⟩ | ⟨g2, cap, rest, fr2, rfl, -, hh, -⟩
  · cases hg
  · simp [Value.ownBlock] at hg
    subst hg
    rw [hh] at hb
    injection hb with hb
    injection hb with h1 h2
    exact ht h2.symm
theorem ne_of_types {w : World} {a b : Nat} {cs cs' : Array Value} {t t' : TypeId} {fr fr' : Nat × Nat} (ha : w.heap[a]? = some (.cells cs t fr)) (hb : w.heap[b]? = some (.cells cs' t' fr')) (h : t ≠ t') : a ≠ b := by
  intro e
  subst e
  rw [ha] at hb
  injection hb with hb
  injection hb with h1 h2
  exact h h2
theorem StW.ne {B : Nat} {W : World} {bf bo bk : Nat} {K : ByteArray} {F : Nat} {v : Value} {O : List UInt8} (h : StW B W bf bo bk K F v O) : bf ≠ bo ∧ bf ≠ bk ∧ bo ≠ bk :=
  ⟨ne_of_types h.f h.o (by decide), ne_of_types h.f h.k (by decide), ne_of_types h.o h.k (by decide)⟩
theorem stretch2_any (B bf bo bk : Nat) (s : ByteArray) (F z : Nat) (v : Value) (O : List UInt8) (w : World) (hA : StW B w bf bo bk s F v O) (hF : F ≤ z) (hto : z ≤ s.size) (h128 : z - F ≤ 128) (hs : s.size ≤ 1073741824) (hO : O.length ≤ 4294967296) :
    Calls Try.prog 39 #[.int .i64 z, .pointer (some ⟨bf, 0, none⟩), .pointer (some ⟨bo, 0, none⟩), .pointer (some ⟨bk, 0, none⟩)] w fun e w' => e = .returned (.tuple #[]) ∧ (∃ v', StW B w' bf bo bk s F v' (O ++ litW s F z) ∧ SwTurn w w' bo v v') := by
  have cf := cell_of_one hA.f
  have co := cell_of_one hA.o
  have cs := cell_of_one hA.k
  have HA := Lib.hid hA
  clear hA
  by_cases hlt : F < z
  · obtain ⟨d, hd0⟩ : ∃ d, z - F = d + 1 := ⟨z - F - 1, by omega⟩
    obtain ⟨k, hk⟩ : ∃ k, k = d + 1 := ⟨_, rfl⟩
    have e1 : IntKind.i64.wrap ((z : Int) - F) = (k : Int) := by rw [IntWalk.i64_in _ (by omega)]; omega
    have e2 : IntKind.i64.wrap ((k : Int) - 1) = (d : Int) := by rw [IntWalk.i64_in _ (by omega)]; omega
    have e3 : IntKind.u8.wrap (d : Int) = d := IntWalk.u8_in _ (by omega)
    have f0 : (0 : Int) ≤ F := by omega
    have f1 : (F : Int) ≤ z := by omega
    have f2 : (z : Int) ≤ s.size := by omega
    have HC : Hid ((d : Int) = ((UInt8.ofNat d).toNat : Int)) := show _ = _ from by rw [UInt8.toNat_ofNat_of_lt' (show d < 256 by omega)]
    have hbA : Below w.heap.size w (w.drew.alloc (.cells #[.int .u8 (d : Int)] 5)) := ((Below.refl _ _).drew).alloc (Nat.le_refl _) _
    have HBA := Lib.hid hbA
    have hA1 : StW B (w.drew.alloc (.cells #[.int .u8 (d : Int)] 5)) bf bo bk s F v O := ⟨keep_row hbA HA.out.f, keep_row hbA HA.out.o, keep_row hbA HA.out.k, HA.out.own.below hbA (Nat.le_refl _)⟩
    have HA1 := Lib.hid hA1
    have HSA : Hid ((w.drew.alloc (.cells #[.int .u8 (d : Int)] 5)).cell? ⟨bf, 0, none⟩ = some (.int .i64 F) ∧ (w.drew.alloc (.cells #[.int .u8 (d : Int)] 5)).cell? ⟨bk, 0, none⟩ = some (.string s)) := show _ ∧ _ from ⟨cell_of_one hA1.f, cell_of_one hA1.k⟩
    have co1 : w.drew.cell? ⟨bo, 0, none⟩ = some v := co
    have co2 : (w.drew.alloc (.cells #[.int .u8 (d : Int)] 5)).cell? ⟨bo, 0, none⟩ = some v := cell_of_one hA1.o
    have co3 : (w.alloc (.cells #[.int .u8 (d : Int)] 5)).cell? ⟨bo, 0, none⟩ = some v := co2
    have HXE : Hid ((s.extract F z).data.toList = (s.data.toList.drop F).take (z - F)) := show _ = _ from by rw [ByteArray.data_extract, Array.toList_extract]
    have HXL : Hid ((s.extract F z).data.toList.length = z - F) := show _ = _ from by
      have hl : s.data.toList.length = s.size := rfl
      rw [HXE.out, List.length_take, List.length_drop, hl]; omega
    have HLW : Hid (litW s F z = UInt8.ofNat d :: (s.data.toList.drop F).take (z - F)) := show _ = _ from by rw [litW, if_pos hlt, show z - F - 1 = d by omega]
    have hkb : d < 128 := by omega
    have HXP : Hid (0 < (s.extract F z).data.toList.length) := show _ < _ from by rw [HXL.out]; omega
    have hd : decide ((F : Int) < z) = true := decide_eq_true (by omega)
    have hdn : decide (F < z) = true := decide_eq_true hlt
    clear hk hd0 hbA hA1
    go_enter Try.func39, Try.ntmps39
    go_wp2_with fail
    refine wp_region_held_drew (S := fun W => W.cell? ⟨bf, 0, none⟩ = some (.int .i64 F) ∧ W.cell? ⟨bk, 0, none⟩ = some (.string s)) (by kernel_rfl) ⟨cf, cs⟩ (fun _ => ?_)
    refine rg_gen (i := 1) (v := ?_) rfl (by kernel_rfl) (by kernel_rfl) (by kernel_rfl) (fun _ _ _ h => h) rfl (by rfl) ?_ (by assumption) ?_
    rotate_left
    · intro w hSw
      try dsimp only at hSw
      go_simp
      try with_reducible rfl
    try simp only [Act.put, List.setIfInBounds_toArray, List.set_cons_zero, List.set_cons_succ]
    refine rg_gen (i := 2) (v := ?_) rfl (by kernel_rfl) (by kernel_rfl) (by kernel_rfl) (fun _ _ _ h => h) rfl (by rfl) ?_ (by assumption) ?_
    rotate_left
    · intro w hSw
      try dsimp only at hSw
      go_simp
      try with_reducible rfl
    try simp only [Act.put, List.setIfInBounds_toArray, List.set_cons_zero, List.set_cons_succ]
    refine rg_gen (i := 3) (v := ?_) rfl (by kernel_rfl) (by kernel_rfl) (by kernel_rfl) (fun _ _ _ h => h) rfl (by rfl) ?_ (by assumption) ?_
    rotate_left
    · intro w hSw
      try dsimp only at hSw
      go_simp
      try with_reducible rfl
    try simp only [Act.put, List.setIfInBounds_toArray, List.set_cons_zero, List.set_cons_succ]
    refine rg_gen (i := 4) (v := ?_) rfl (by kernel_rfl) (by kernel_rfl) (by kernel_rfl) (fun _ _ _ h => h) rfl (by rfl) ?_ (by assumption) ?_
    rotate_left
    · intro w hSw
      try dsimp only at hSw
      go_simp
      try with_reducible rfl
    try simp only [Act.put, List.setIfInBounds_toArray, List.set_cons_zero, List.set_cons_succ]
    refine rg_gen (i := 5) (v := ?_) rfl (by kernel_rfl) (by kernel_rfl) (by kernel_rfl) (fun _ _ _ h => h) rfl (by rfl) ?_ (by assumption) ?_
    rotate_left
    · intro w hSw
      try dsimp only at hSw
      go_simp
      try with_reducible rfl
    try simp only [Act.put, List.setIfInBounds_toArray, List.set_cons_zero, List.set_cons_succ]
    refine rg_gen (i := 8) (v := ?_) rfl (by kernel_rfl) (by kernel_rfl) (by kernel_rfl) (fun _ _ _ h => h) rfl (by rfl) ?_ (by assumption) ?_
    rotate_left
    · intro w hSw
      try dsimp only at hSw
      go_simp
      try with_reducible rfl
    try simp only [Act.put, List.setIfInBounds_toArray, List.set_cons_zero, List.set_cons_succ]
    refine rg_gen (i := 9) (v := ?_) rfl (by kernel_rfl) (by kernel_rfl) (by kernel_rfl) (fun _ _ _ h => h) rfl (by rfl) ?_ (by assumption) ?_
    rotate_left
    · intro w hSw
      try dsimp only at hSw
      go_simp
      try with_reducible rfl
    try simp only [Act.put, List.setIfInBounds_toArray, List.set_cons_zero, List.set_cons_succ]
    refine rg_gen (i := 10) (v := ?_) rfl (by kernel_rfl) (by kernel_rfl) (by kernel_rfl) (fun _ _ _ h => h) rfl (by rfl) ?_ (by assumption) ?_
    rotate_left
    · intro w hSw
      try dsimp only at hSw
      go_simp
      try with_reducible rfl
    try simp only [Act.put, List.setIfInBounds_toArray, List.set_cons_zero, List.set_cons_succ]
    refine rg_gen (i := 11) (v := ?_) rfl (by kernel_rfl) (by kernel_rfl) (by kernel_rfl) (fun _ _ _ h => h) rfl (by rfl) ?_ (by assumption) ?_
    rotate_left
    · intro w hSw
      try dsimp only at hSw
      go_simp
      try with_reducible rfl
    try simp only [Act.put, List.setIfInBounds_toArray, List.set_cons_zero, List.set_cons_succ]
    refine wpAnyH_ready (rs := [0, 6]) (by kernel_rfl) (by simp) ?_
    refine AllReadyH.cons rfl (fun K hK => ?_) (AllReadyH.cons rfl (fun K hK => ?_) AllReadyH.nil)
    go_simp
    refine hK.out _ _ ⟨cf, cs⟩ (fun _ => ?_)
    clear hK K
    try simp only [Act.put, List.setIfInBounds_toArray, List.set_cons_zero, List.set_cons_succ]
    refine rg_one (i := 6) (by kernel_rfl) rfl (fun K hK => ?_)
    go_simp
    refine hK.out _ _ HSA.out (fun _ => ?_)
    clear hK K
    rotate_left
    go_simp
    refine hK.out _ _ HSA.out (fun _ => ?_)
    clear hK K
    try simp only [Act.put, List.setIfInBounds_toArray, List.set_cons_zero, List.set_cons_succ]
    refine rg_one (i := 0) (by kernel_rfl) rfl (fun K hK => ?_)
    go_simp
    refine hK.out _ _ HSA.out (fun _ => ?_)
    clear hK K
    all_goals
      try simp only [Act.put, List.setIfInBounds_toArray, List.set_cons_zero, List.set_cons_succ]
      refine rg_one (i := 7) (by kernel_rfl) rfl (fun K hK => ?_)
      rw [if_pos (by rfl)]
      refine wp_appZ2 (.tmp 8) (.tmp 14) 34 rfl B v O (by rfl) HA1.out.own _ (by rfl) [UInt8.ofNat d] (byte_src HC.out (heap_alloc_new w.drew _)) Nat.one_pos (by simp; omega) ?_
      intro v5 w5 hO5 hb5 hk5 hn5
      have HT5 : Hid (StW B w5 bf bo bk s F v (O ++ [UInt8.ofNat d]) ∨ True) := show _ ∨ _ from .inr trivial
      have hne1 : ∀ j cs t fr, w.heap[j]? = some (.cells cs t fr) → t ≠ 5 → v.ownBlock ≠ some j := fun j cs t fr hj ht e => HA.out.own.row_ne e hj ht rfl
      have hk5' : ∀ j, j < w.heap.size → v.ownBlock ≠ some j → w5.heap[j]? = w.heap[j]? := fun j hj hn => (hk5 j (Nat.lt_of_lt_of_le hj HBA.out.size) hn).trans (HBA.out.block j hj)
      have hS5 : w5.cell? ⟨bf, 0, none⟩ = some (.int .i64 F) ∧ w5.cell? ⟨bk, 0, none⟩ = some (.string s) := ⟨cell_of_one ((hk5' bf (block_lt HA.out.f) (hne1 _ _ _ _ HA.out.f (by decide))).trans HA.out.f), cell_of_one ((hk5' bk (block_lt HA.out.k) (hne1 _ _ _ _ HA.out.k (by decide))).trans HA.out.k)⟩
      have HO5 : Hid (OwnZ B v5 (O ++ [UInt8.ofNat d]) w5) := show _ ∨ _ from .inr hO5
      have HB5 : Hid (Below B w w5) := ((HBA.out.mono HA.out.own.lt).trans hb5)
      have HK5 := Lib.hid hk5'
      have HN5 : Hid (OwnNew w v v5) := show OwnNew _ _ _ from fun k hk => (hn5 k hk).imp id fun h => Nat.le_trans HBA.out.size h
      have HNE := Lib.hid hne1
      clear hO5 hb5 hk5 hn5 hk5' hne1 HT5
      refine hK.out _ _ hS5 (fun _ => ?_)
      clear hK K hS5
      try simp only [Act.put, List.setIfInBounds_toArray, List.set_cons_zero, List.set_cons_succ]
      refine rg_one (i := 12) (by kernel_rfl) rfl (fun K hK => ?_)
      rw [if_pos (by rfl)]
      refine wp_appZ2 (.tmp 15) (.tmp 19) 9 rfl B v5 (O ++ [UInt8.ofNat d]) (by rfl) HO5.out _ (by rfl) (s.extract F z).data.toList (Src.ofString w5 Try.underlying9 (s.extract F z)) HXP.out (by rw [HXL.out]; simp; omega) ?_
      intro v6 w6 hO6 hb6 hk6 hn6
      have HO6 : Hid (OwnZ B v6 (O ++ litW s F z) w6) := show _ ∨ _ from .inr (by rw [HXE.out, List.append_assoc] at hO6; rw [HLW.out]; exact hO6)
      have HB6 := Lib.hid (HB5.out.trans hb6)
      have HZ6 : Hid (w.heap.size ≤ w6.heap.size) := show _ ≤ _ from Nat.le_trans (HB5.out.size) hb6.size
      have HK6 : Hid (∀ j, j < w.heap.size → v.ownBlock ≠ some j → w6.heap[j]? = w.heap[j]?) := show ∀ j, _ from fun j hj hn => (hk6 j (Nat.lt_of_lt_of_le hj HB5.out.size) (fun e => (HN5.out j e).elim hn (by omega))).trans (HK5.out j hj hn)
      have HN6 : Hid (OwnNew w v v6) := show OwnNew _ _ _ from fun k hk => (hn6 k hk).elim (HN5.out k) fun h => .inr (Nat.le_trans HB5.out.size h)
      clear hO6 hb6 hk6 hn6 HO5 HB5 HK5 HN5
      obtain ⟨q6, n6, c6, rfl⟩ := OwnZ.sh HO6.out
      have hf6 : w6.heap[bf]? = some (.cells #[.int .i64 F] 3 (0, 0)) := (HK6.out bf (block_lt HA.out.f) (HNE.out _ _ _ _ HA.out.f (by decide))).trans HA.out.f
      have ho6 : w6.heap[bo]? = some (.cells #[v] 34 (0, 0)) := (HK6.out bo (block_lt HA.out.o) (HNE.out _ _ _ _ HA.out.o (by decide))).trans HA.out.o
      have hk6 : w6.heap[bk]? = some (.cells #[.string s] 9 (0, 0)) := (HK6.out bk (block_lt HA.out.k) (HNE.out _ _ _ _ HA.out.k (by decide))).trans HA.out.k
      have HF6 := Lib.hid hf6
      have HO6' := Lib.hid ho6
      have HK6' := Lib.hid hk6
      have co6 : w6.cell? ⟨bo, 0, none⟩ = some v := cell_of_one ho6
      have cz6 : w6.frozen? ⟨bo, 0, none⟩ = false := frozen_of_row w6 bo 0 _ _ ho6
      clear ho6
      refine hK.out _ _ ⟨cell_of_one hf6, cell_of_one hk6⟩ (fun _ => ?_)
      clear hK K hf6 hk6
      try simp only [Act.put, List.setIfInBounds_toArray, List.set_cons_zero, List.set_cons_succ]
      refine rg_one (i := 13) (by kernel_rfl) rfl (fun K hK => ?_)
      go_simp
      have hA6 : StW B (w6.setCell ⟨bo, 0, none⟩ (.slice q6 n6 c6)) bf bo bk s F (.slice q6 n6 c6) (O ++ litW s F z) := by
        have hn := HA.out.ne
        refine ⟨(heap_setCell_other _ _ _ _ hn.1).trans HF6.out, set_row (i := 0) (cs := [v]) HO6'.out (.slice q6 n6 c6), (heap_setCell_other _ _ _ _ (Ne.symm hn.2.2)).trans HK6'.out, ?_⟩
        exact HO6.out.keep (by simp [World.setCell]) fun k hk => heap_setCell_other _ _ _ _ (HO6.out.row_ne hk HO6'.out (by decide))
      have hT6 : SwTurn w (w6.setCell ⟨bo, 0, none⟩ (.slice q6 n6 c6)) bo v (.slice q6 n6 c6) := ⟨HB6.out.os, HB6.out.tape, HB6.out.output, Nat.le_trans HZ6.out (by simp [World.setCell]), fun j hj h1 h2 => (heap_setCell_other _ _ _ _ h1).trans (HK6.out j hj h2), HN6.out⟩
      have HA6 := Lib.hid hA6
      have HT6 := Lib.hid hT6
      refine hK.out _ _ ⟨cell_of_one hA6.f, cell_of_one hA6.k⟩ (fun _ => ?_)
      clear hK K hA6 hT6
      refine wpAnyH_done (by kernel_rfl) ?_ _
      go_wp2_with fail
      go_end0
      exact ⟨rfl, _, HA6.out, HT6.out⟩
  · obtain rfl : F = z := by omega
    have hd : decide ((F : Int) < F) = false := decide_eq_false (by omega)
    have HLW : Hid (litW s F F = []) := show _ = _ from litW_none s F
    go_enter Try.func39, Try.ntmps39
    go_wp2_with fail
    go_end0
    exact ⟨rfl, v, by rw [HLW.out, List.append_nil]; exact HA.out, SwTurn.refl _ _ _⟩
end Go.Proofs.Ytbelofikknfoaaa
