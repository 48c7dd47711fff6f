/- runs.Pack: what the call does. -/
import Derived.Test.YtbelofikknfoaaaCStretch
namespace Go.Proofs.Ytbelofikknfoaaa
open Go.RowKit
set_option maxHeartbeats 4000000
set_option maxRecDepth 4000
theorem rpack_length : ∀ (f : Nat) (l : List UInt8), (rpack f l).length ≤ 2 * l.length
  | 0, _ => by simp [rpack]
  | f + 1, [] => by simp [rpack]
  | f + 1, c :: l => by
    unfold rpack
    by_cases h : three (c :: l) = true
    · rw [if_pos h]
      have h1 : 0 < runN c 130 (c :: l) := runN_pos c 129 l
      have h2 := (runN_le c 130 (c :: l)).2
      have ih := rpack_length f ((c :: l).drop (runN c 130 (c :: l)))
      rw [List.length_drop] at ih
      simp only [List.length_cons] at ih h2 ⊢
      omega
    · rw [if_neg h]
      have h1 : 0 < litN 128 (c :: l) := litN_pos (k := 127) (show three (c :: l) = false by simpa using h)
      have h2 := (litN_le 128 (c :: l)).2
      have ih := rpack_length f ((c :: l).drop (litN 128 (c :: l)))
      rw [List.length_drop] at ih
      simp only [List.length_cons, List.length_append, List.length_take] at ih h2 ⊢
      omega
theorem rpk_length (l : List UInt8) : (rpk l).length ≤ 2 * l.length := rpack_length _ _
theorem three_runN (c : UInt8) (l : List UInt8) : three (c :: l) = decide (3 ≤ runN c 130 (c :: l)) := by
  match l with
  | [] => simp [three, runN]
  | [b] =>
    simp only [three, runN, if_true]
    split <;> simp
  | b :: d :: r =>
    simp only [three, runN, if_true]
    by_cases h1 : b = c
    · subst h1
      by_cases h2 : d = b
      · subst h2
        simp
      · have h3 : ¬ b = d := fun h => h2 h.symm
        simp [h2, h3]
    · have h3 : ¬ c = b := fun h => h1 h.symm
      simp [h1, h3]
theorem drop_at {s : ByteArray} {a : Nat} (h : a < s.size) : s.data.toList.drop a = s[a]'h :: s.data.toList.drop (a + 1) := by
  have hl : s.data.toList.length = s.size := rfl
  rw [List.drop_eq_getElem_cons (show a < s.data.toList.length by rw [hl]; exact h)]
  rfl
theorem sameN_le {s : ByteArray} {a : Nat} (h : a < s.size) : 1 ≤ sameN s a ∧ sameN s a ≤ 130 ∧ a + sameN s a ≤ s.size := by
  have hl : s.data.toList.length = s.size := rfl
  rw [sameN, dif_pos h]
  have h1 := runN_le (s[a]'h) 130 (s.data.toList.drop a)
  have h2 : 0 < runN (s[a]'h) 130 (s.data.toList.drop a) := by rw [drop_at h]; exact runN_pos _ 129 _
  rw [List.length_drop, hl] at h1
  omega
theorem three_same {s : ByteArray} {a : Nat} (h : a < s.size) : three (s.data.toList.drop a) = decide (3 ≤ sameN s a) := by
  rw [sameN, dif_pos h, drop_at h]
  exact three_runN _ _
theorem rpk_run_at {s : ByteArray} {a : Nat} (h : a < s.size) (h3 : 3 ≤ sameN s a) : rpk (s.data.toList.drop a) = UInt8.ofNat (125 + sameN s a) :: s[a]'h :: rpk (s.data.toList.drop (a + sameN s a)) := by
  have h4 := three_same h
  rw [decide_eq_true h3] at h4
  have hN : sameN s a = runN (s[a]'h) 130 (s.data.toList.drop a) := by rw [sameN, dif_pos h]
  rw [drop_at h] at h4 hN ⊢
  rw [rpk_run h4, ← hN, ← drop_at h, List.drop_drop]
theorem StTurn.below {W W' w : World} {B bf bo : Nat} (h : StTurn W W' B bf bo) (hb : Below w.heap.size w W) (h1 : w.heap.size ≤ bf) (h2 : w.heap.size ≤ bo) (h3 : w.heap.size ≤ B) : Below w.heap.size w W' :=
  hb.trans ⟨h.os, h.tape, h.output, h.size, fun k hk => h.block k (by omega) (by omega) (by omega)⟩
theorem byte_src2 {w W : World} {n m : Int} {c d : UInt8} {t : TypeId} (hn : n = (c.toNat : Int)) (hm : m = (d.toNat : Int)) (h : W.heap[w.heap.size]? = some (.cells #[.int .u8 n, .int .u8 m] t (0, 0))) : Src Try.prog 1 34 (.slice (some ⟨w.heap.size, 0, none⟩) 2 2) [c, d].length (u8s [c, d]) W := by
  refine Src.ofSlice W Try.underlying34 ⟨w.heap.size, 0, none⟩ 2 2 (u8s [c, d]) rfl (fun j u hj => ?_) (u8s_one _)
  subst hn hm
  have hadd : (⟨w.heap.size, 0, none⟩ : Addr).add j = ⟨w.heap.size, j, none⟩ := by unfold Addr.add; split <;> simp_all
  have h2 : W.heap[w.heap.size]? = some (.cells (u8s [c, d]).toArray t (0, 0)) := h
  rw [hadd, cell_of_row W w.heap.size j _ _ _ h2, List.getElem?_toArray]
  exact hj
theorem OwnZ.conv {B : Nat} {v : Value} {xs : List UInt8} {w : World} (h : OwnZ B v xs w) : (convert 34 9 v).run Try.prog w = .ok (.string (bstr xs)) w := by
  rcases h with ⟨rfl, rfl, _⟩ | h
  · kernel_rfl
  · exact h.conv
theorem rpack_any (s : ByteArray) (w : World) (hs : s.size ≤ 65536) :
    Calls Try.prog 29 #[.string s] w fun e w' => e = .returned (.string (bstr (rpk s.data.toList))) ∧ Below w.heap.size w w' := by
  obtain ⟨L, hL⟩ : ∃ L, L = s.data.toList := ⟨_, rfl⟩
  have HL := Lib.hid hL
  have HLL : Hid (L.length = s.size) := show _ = _ from by rw [hL]; rfl
  have HTH : Hid (∀ a (h : a < s.size), three (L.drop a) = decide (3 ≤ sameN s a)) := show ∀ a, _ from fun a h => by rw [hL]; exact three_same h
  have HRUN : Hid (∀ a (h : a < s.size), 3 ≤ sameN s a → rpk (L.drop a) = UInt8.ofNat (125 + sameN s a) :: s[a]'h :: rpk (L.drop (a + sameN s a))) := show ∀ a, _ from fun a h h3 => by rw [hL]; exact rpk_run_at h h3
  rw [← hL]
  have HST : Hid (∀ (B bf bo bs F to : Nat) (v : Value) (O : List UInt8) (W : World), StAt B W bf bo bs s F v O → F ≤ to → to ≤ s.size → to - F ≤ 128 → O.length ≤ 4294967296 → Calls Try.prog 36 #[.int .i64 to, .pointer (some ⟨bf, 0, none⟩), .pointer (some ⟨bo, 0, none⟩), .pointer (some ⟨bs, 0, none⟩)] W fun e w' => e = .returned (.tuple #[]) ∧ (∃ v', StAt B w' bf bo bs s to v' (if F < to then O ++ UInt8.ofNat (to - F - 1) :: ((L.drop F).take (to - F)) else O)) ∧ StTurn W w' B bf bo) := show ∀ B, _ from fun B bf bo bs F to v O W h1 h2 h3 h4 h5 => by
    rw [hL]
    exact stretch_any B bf bo bs s F to v O W h1 h2 h3 h4 (by omega) h5
  have hA0 : StAt (w.heap.size + 1 + 1 + 1) (((w.alloc (.cells #[.string s] 9)).alloc (.cells #[.slice none 0 0] 34)).alloc (.cells #[.int .i64 0] 3)) (w.heap.size + 1 + 1) (w.heap.size + 1) w.heap.size s 0 (.slice none 0 0) [] := by
    have h1 : ((w.alloc (.cells #[.string s] 9)).alloc (.cells #[.slice none 0 0] 34)).heap.size = w.heap.size + 1 + 1 := by simp
    have h2 : (w.alloc (.cells #[.string s] 9)).heap.size = w.heap.size + 1 := by simp
    refine ⟨?_, ?_, ?_, .inl ⟨rfl, rfl, by simp⟩, by omega, by omega⟩
    · rw [← h1]; exact heap_alloc_new _ _
    · rw [← h2]; exact (Below.heap_alloc _ _ _ (by simp)).trans (heap_alloc_new _ _)
    · exact (Below.heap_alloc _ _ _ (by simp; omega)).trans ((Below.heap_alloc _ _ _ (by simp)).trans (heap_alloc_new _ _))
  have HA0 := Lib.hid hA0
  have HB0 := Lib.hid (bw_alloc (bw_alloc (bw_alloc (Below.refl w.heap.size w) (.cells #[.string s] 9)) (.cells #[.slice none 0 0] 34)) (.cells #[.int .i64 0] 3))
  clear hL hA0
  go_enter Try.func29, Try.ntmps29
  go_wp2_with fail
  generalize ((w.alloc (.cells #[.string s] 9)).alloc (.cells #[.slice none 0 0] 34)).alloc (.cells #[.int .i64 0] 3) = w0 at *
  obtain ⟨bf, hbf⟩ : ∃ y, y = w.heap.size + 1 + 1 := ⟨_, rfl⟩
  obtain ⟨bo, hbo⟩ : ∃ y, y = w.heap.size + 1 := ⟨_, rfl⟩
  rw [← hbf, ← hbo] at HA0
  rw [← hbf, ← hbo]
  have hlo : w.heap.size ≤ bf ∧ w.heap.size ≤ bo ∧ w.heap.size ≤ bf + 1 := by omega
  clear hbf hbo
  go_loopw [6, 7] (fun at_ n wr => ∃ (a F : Nat) (v : Value) (O : List UInt8), a ≤ s.size ∧ F ≤ a ∧ a - F ≤ 127 ∧ at_ = .int .i64 a ∧ Hid (∀ j, F ≤ j → j < a → three (L.drop j) = false) ∧ Hid (O ++ rpk (L.drop F) = rpk L) ∧ Hid (StAt (bf + 1) wr bf bo w.heap.size s F v O) ∧ Hid (Below w.heap.size w wr)) (fun at_ _ _ => s.size - (intOf at_).toNat)
  case atStart => exact ⟨0, 0, .slice none 0 0, [], by omega, by omega, by omega, rfl, show ∀ j, _ from fun j h1 h2 => absurd h2 (by omega), show _ = _ from rfl, HA0, HB0⟩
  case round =>
    obtain ⟨a, F, v, O, ha, hFa, h127, rfl, HNO, HEQ, HA, HB⟩ := hrel
    have cs := cell_of_one HA.out.s
    have hOl : O.length ≤ 4294967296 := by
      have h1 := congrArg List.length HEQ.out
      have h2 := rpk_length L
      rw [List.length_append] at h1
      have := HLL.out
      omega
    by_cases hlt : a < s.size
    · have f0 : (0 : Int) ≤ a := by omega
      have f1 : (a : Int) < s.size := by omega
      go_wp2_with fail
      refine (same_any s a _ (by omega) hlt).mono ?_
      rintro e w1 ⟨rfl, hb1⟩
      have HA1 := Lib.hid (HA.out.below hb1)
      have HB1 := Lib.hid (bw_call HB.out hb1)
      have hN := sameN_le hlt
      have HTA := Lib.hid (HTH.out a hlt)
      have HRA := Lib.hid (HRUN.out a hlt)
      obtain ⟨N, hNN⟩ : ∃ N, N = sameN s a := ⟨_, rfl⟩
      rw [← hNN] at hN HTA HRA ⊢
      clear hNN hb1 cs
      have cf := cell_of_one HA1.out.f
      by_cases h3 : N < 3
      · have d1 : decide ((N : Int) < 3) = true := decide_eq_true (by omega)
        have HNO2 : Hid (∀ j, F ≤ j → j < a + 1 → three (L.drop j) = false) := show ∀ j, _ from fun j h1 h2 => by
          rcases Nat.lt_succ_iff_lt_or_eq.1 h2 with h4 | h4
          · exact HNO.out j h1 h4
          · subst h4
            rw [HTA.out, decide_eq_false (by omega)]
        have e1 : IntKind.i64.wrap ((a : Int) + 1) = ((a + 1 : Nat) : Int) := by rw [IntWalk.i64_in _ (by omega)]; omega
        obtain ⟨k, hk⟩ : ∃ k, k = a + 1 - F := ⟨_, rfl⟩
        have e3 : IntKind.i64.wrap ((a : Int) + 1 - F) = (k : Int) := by rw [IntWalk.i64_in _ (by omega)]; omega
        by_cases h128 : k = 128
        · have e4 : ((k : Int) == 128) = true := by simp; omega
          have HEQ2 : Hid ((O ++ UInt8.ofNat (a + 1 - F - 1) :: ((L.drop F).take (a + 1 - F))) ++ rpk (L.drop (a + 1)) = rpk L) := show _ = _ from by
            rw [← HEQ.out, rpk_stretch (s := L) (f := F) (a := a + 1) (by omega) (by have := HLL.out; omega) (by omega) HNO2.out (.inl (by omega)), List.append_assoc, List.cons_append]
          go_wp2_with fail
          rw [show (a : Int) + 1 = ((a + 1 : Nat) : Int) by omega]
          refine (HST.out (bf + 1) bf bo w.heap.size F (a + 1) v O _ HA1.out (by omega) (by omega) (by omega) hOl).mono ?_
          rintro e w2 ⟨rfl, ⟨v2, hA2⟩, hT2⟩
          rw [if_pos (by omega)] at hA2
          have HA2 := Lib.hid hA2
          have HB2 := Lib.hid (hT2.below HB1.out hlo.1 hlo.2.1 hlo.2.2)
          clear hA2 hT2 hk e3 e4 cf
          go_wp2_with fail
          go_roundw
          case rel => exact ⟨a + 1, a + 1, v2, _, by omega, by omega, by omega, by go_num, show ∀ j, _ from fun j h1 h2 => absurd h2 (by omega), HEQ2, HA2, HB2⟩
          case measure => simp [intOf]; omega
        · have e4 : ((k : Int) == 128) = false := by rw [beq_eq_false_iff_ne]; omega
          go_wp2_with fail
          go_roundw
          case rel => exact ⟨a + 1, F, v, O, by omega, by omega, by omega, by go_num, HNO2, HEQ, HA1, HB1⟩
          case measure => simp [intOf]; omega
      · have d1 : decide ((N : Int) < 3) = false := decide_eq_false (by omega)
        go_wp2_with fail
        refine (HST.out (bf + 1) bf bo w.heap.size F a v O _ HA1.out hFa ha (by omega) hOl).mono ?_
        rintro e w2 ⟨rfl, ⟨v2, hA2⟩, hT2⟩
        have HEQ2 : Hid ((if F < a then O ++ UInt8.ofNat (a - F - 1) :: ((L.drop F).take (a - F)) else O) ++ rpk (L.drop a) = rpk L) := show _ = _ from by
          by_cases hFa2 : F < a
          · rw [if_pos hFa2, ← HEQ.out, rpk_stretch (s := L) (f := F) (a := a) hFa2 (by have := HLL.out; omega) (by omega) HNO.out (.inr (.inr (by rw [HTA.out, decide_eq_true (by omega)]))), List.append_assoc, List.cons_append]
          · obtain rfl : F = a := by omega
            rw [if_neg hFa2]
            exact HEQ.out
        generalize (if F < a then O ++ UInt8.ofNat (a - F - 1) :: ((L.drop F).take (a - F)) else O) = O2 at *
        have HA2 := Lib.hid hA2
        have HB2 := Lib.hid (hT2.below HB1.out hlo.1 hlo.2.1 hlo.2.2)
        clear hA2 hT2 cf
        have cs2 := cell_of_one HA2.out.s
        have co2 := cell_of_one HA2.out.o
        have hO2 : O2.length ≤ 4294967296 := by
          have h1 := congrArg List.length HEQ2.out
          have h2 := rpk_length L
          rw [List.length_append] at h1
          have := HLL.out
          omega
        obtain ⟨M, hM⟩ : ∃ M, M = 125 + N := ⟨_, rfl⟩
        have e5 : IntKind.i64.wrap ((N : Int) + 125) = (M : Int) := by rw [IntWalk.i64_in _ (by omega)]; omega
        have e6 : IntKind.u8.wrap (M : Int) = M := IntWalk.u8_in _ (by omega)
        have hcb := byte_lt (s[a]'hlt)
        have HMC : Hid ((M : Int) = ((UInt8.ofNat M).toNat : Int)) := show _ = _ from by rw [UInt8.toNat_ofNat_of_lt' (show M < 256 by omega)]
        have HRA2 : Hid (rpk (L.drop a) = UInt8.ofNat M :: s[a]'hlt :: rpk (L.drop (a + N))) := show _ = _ from by rw [hM]; exact HRA.out (by omega)
        have HN := Lib.hid hN
        have hbA : Below (bf + 1) w2 (w2.drew.alloc (.cells #[.int .u8 (M : Int), .int .u8 ((s[a]'hlt).toNat : Int)] 5)) := ((Below.refl _ _).drew).alloc HA2.out.own.lt _
        have HBA := Lib.hid hbA
        have HOA := Lib.hid (HA2.out.own.below ((Below.refl w2.heap.size w2).drew.alloc (Nat.le_refl _) (.cells #[.int .u8 (M : Int), .int .u8 ((s[a]'hlt).toNat : Int)] 5)) (Nat.le_refl _))
        have KEEP : Hid (∀ W, Below (bf + 1) w2 W → W.cell? ⟨w.heap.size, 0, none⟩ = some (.string s)) := show ∀ W, _ from fun W hb => cell_of_one ((hb.block w.heap.size HA2.out.lo.2.2).trans HA2.out.s)
        have HSA := Lib.hid (KEEP.out _ hbA)
        have co3 : w2.drew.cell? ⟨bo, 0, none⟩ = some v2 := co2
        have co4 : (w2.drew.alloc (.cells #[.int .u8 (M : Int), .int .u8 ((s[a]'hlt).toNat : Int)] 5)).cell? ⟨bo, 0, none⟩ = some v2 := cell_of_one ((hbA.block bo HA2.out.lo.2.1).trans HA2.out.o)
        have co5 : (w2.alloc (.cells #[.int .u8 (M : Int), .int .u8 ((s[a]'hlt).toNat : Int)] 5)).cell? ⟨bo, 0, none⟩ = some v2 := co4
        clear hM hN HRA HTA
        go_wp2_with fail
        refine wp_region_held_drew (S := fun W => W.cell? ⟨w.heap.size, 0, none⟩ = some (.string s)) (by kernel_rfl) cs2 (fun _ => ?_)
        refine rg_gen (i := 1) (v := ?_) rfl (by kernel_rfl) (by kernel_rfl) (by kernel_rfl) (fun _ _ _ h => h) rfl (by rfl) ?_ (by assumption) ?_
        rotate_left
        · intro w hSw
          try dsimp only at hSw
          go_simp
          try with_reducible rfl
        try simp only [Act.put, List.setIfInBounds_toArray, List.set_cons_zero, List.set_cons_succ]
        refine rg_gen (i := 2) (v := ?_) rfl (by kernel_rfl) (by kernel_rfl) (by kernel_rfl) (fun _ _ _ h => h) rfl (by rfl) ?_ (by assumption) ?_
        rotate_left
        · intro w hSw
          try dsimp only at hSw
          go_simp
          try with_reducible rfl
        try simp only [Act.put, List.setIfInBounds_toArray, List.set_cons_zero, List.set_cons_succ]
        refine rg_gen (i := 3) (v := ?_) rfl (by kernel_rfl) (by kernel_rfl) (by kernel_rfl) (fun _ _ _ h => h) rfl (by rfl) ?_ (by assumption) ?_
        rotate_left
        · intro w hSw
          try dsimp only at hSw
          go_simp
          try with_reducible rfl
        try simp only [Act.put, List.setIfInBounds_toArray, List.set_cons_zero, List.set_cons_succ]
        refine rg_gen (i := 4) (v := ?_) rfl (by kernel_rfl) (by kernel_rfl) (by kernel_rfl) (fun _ _ _ h => h) rfl (by rfl) ?_ (by assumption) ?_
        rotate_left
        · intro w hSw
          try dsimp only at hSw
          go_simp
          try with_reducible rfl
        try simp only [Act.put, List.setIfInBounds_toArray, List.set_cons_zero, List.set_cons_succ]
        refine rg_gen (i := 5) (v := ?_) rfl (by kernel_rfl) (by kernel_rfl) (by kernel_rfl) (fun _ _ _ h => h) rfl (by rfl) ?_ (by assumption) ?_
        rotate_left
        · intro w hSw
          try dsimp only at hSw
          go_simp
          try with_reducible rfl
        try simp only [Act.put, List.setIfInBounds_toArray, List.set_cons_zero, List.set_cons_succ]
        refine rg_gen (i := 6) (v := ?_) rfl (by kernel_rfl) (by kernel_rfl) (by kernel_rfl) (fun _ _ _ h => h) rfl (by rfl) ?_ (by assumption) ?_
        rotate_left
        · intro w hSw
          try dsimp only at hSw
          go_simp
          try with_reducible rfl
        try simp only [Act.put, List.setIfInBounds_toArray, List.set_cons_zero, List.set_cons_succ]
        refine wpAnyH_ready (rs := [0, 7]) (by kernel_rfl) (by simp) ?_
        refine AllReadyH.cons rfl (fun K hK => ?_) (AllReadyH.cons rfl (fun K hK => ?_) AllReadyH.nil)
        go_simp
        refine hK.out _ _ cs2 (fun _ => ?_)
        clear hK K
        try simp only [Act.put, List.setIfInBounds_toArray, List.set_cons_zero, List.set_cons_succ]
        refine rg_one (i := 7) (by kernel_rfl) rfl (fun K hK => ?_)
        go_simp
        refine hK.out _ _ HSA.out (fun _ => ?_)
        clear hK K
        rotate_left
        go_simp
        refine hK.out _ _ HSA.out (fun _ => ?_)
        clear hK K
        try simp only [Act.put, List.setIfInBounds_toArray, List.set_cons_zero, List.set_cons_succ]
        refine rg_one (i := 0) (by kernel_rfl) rfl (fun K hK => ?_)
        go_simp
        refine hK.out _ _ HSA.out (fun _ => ?_)
        clear hK K
        all_goals
          try simp only [Act.put, List.setIfInBounds_toArray, List.set_cons_zero, List.set_cons_succ]
          refine rg_one (i := 8) (by kernel_rfl) rfl (fun K hK => ?_)
          rw [if_pos (by rfl)]
          refine wp_appZ (.tmp 30) (.tmp 37) 34 rfl (bf + 1) v2 O2 (by rfl) HOA.out _ (by rfl) [UInt8.ofNat M, s[a]'hlt] (byte_src2 HMC.out rfl (heap_alloc_new w2.drew _)) Nat.two_pos (by simp; omega) ?_
          intro v6 w6 hO6 hb6
          have HO6 : Hid (OwnZ (bf + 1) v6 (O2 ++ [UInt8.ofNat M, s[a]'hlt]) w6) := show _ ∨ _ from .inr hO6
          have HB6 := Lib.hid (HBA.out.trans hb6)
          clear hO6 hb6
          obtain ⟨q6, n6, c6, rfl⟩ : ∃ q n c, v6 = .slice q n c := by
            obtain ⟨q, c, h⟩ := HO6.out.shape
            exact ⟨q, _, c, h⟩
          have co6 : w6.cell? ⟨bo, 0, none⟩ = some v2 := cell_of_one ((HB6.out.block bo HA2.out.lo.2.1).trans HA2.out.o)
          have cz6 : w6.frozen? ⟨bo, 0, none⟩ = false := frozen_of_row w6 bo 0 _ _ ((HB6.out.block bo HA2.out.lo.2.1).trans HA2.out.o)
          refine hK.out _ _ (KEEP.out _ HB6.out) (fun _ => ?_)
          clear hK K
          try simp only [Act.put, List.setIfInBounds_toArray, List.set_cons_zero, List.set_cons_succ]
          refine rg_one (i := 9) (by kernel_rfl) rfl (fun K hK => ?_)
          go_simp
          have hS6 : (w6.setCell ⟨bo, 0, none⟩ (.slice q6 n6 c6)).cell? ⟨w.heap.size, 0, none⟩ = some (.string s) := by
            have h2 : (w6.setCell ⟨bo, 0, none⟩ (.slice q6 n6 c6)).heap[w.heap.size]? = w6.heap[w.heap.size]? := heap_setCell_other _ _ _ _ (Ne.symm HA2.out.ne.2.2)
            exact (World.cell?_of_block (a := ⟨w.heap.size, 0, none⟩) h2).trans (KEEP.out _ HB6.out)
          refine hK.out _ _ hS6 (fun _ => ?_)
          clear hK K
          refine wpAnyH_done (by kernel_rfl) ?_ _
          have hA6 : StAt (bf + 1) (w6.setCell ⟨bo, 0, none⟩ (.slice q6 n6 c6)) bf bo w.heap.size s a (.slice q6 n6 c6) (O2 ++ [UInt8.ofNat M, s[a]'hlt]) := by
            have ha := HA2.out
            have hb := HB6.out
            exact ⟨(heap_setCell_other _ _ _ _ ha.ne.1).trans ((hb.block bf ha.lo.1).trans ha.f), set_row (i := 0) (cs := [v2]) ((hb.block bo ha.lo.2.1).trans ha.o) (.slice q6 n6 c6), (heap_setCell_other _ _ _ _ (Ne.symm ha.ne.2.2)).trans ((hb.block w.heap.size ha.lo.2.2).trans ha.s), OwnZ.set HO6.out ha.lo.2.1 _ _, ha.lo, ha.ne⟩
          have HA6 := Lib.hid hA6
          have HW6 : Hid (Below w.heap.size w (w6.setCell ⟨bo, 0, none⟩ (.slice q6 n6 c6))) := show Below _ _ _ from (HB2.out.trans (HB6.out.mono hlo.2.2)).setCell (p := ⟨bo, 0, none⟩) hlo.2.1 _
          have HEQ6 : Hid ((O2 ++ [UInt8.ofNat M, s[a]'hlt]) ++ rpk (L.drop (a + N)) = rpk L) := show _ = _ from by rw [← HEQ2.out, HRA2.out, List.append_assoc]; rfl
          clear hA6 co6 cz6 HO6 HB6 co2 co3 co4 co5 hbA HBA HOA HSA cs2 hS6 KEEP
          generalize w6.setCell ⟨bo, 0, none⟩ (.slice q6 n6 c6) = W6 at *
          have cf6 := cell_of_one HA6.out.f
          have cz6 : W6.frozen? ⟨bf, 0, none⟩ = false := frozen_of_row W6 bf 0 _ _ HA6.out.f
          obtain ⟨an, han⟩ : ∃ y, y = a + N := ⟨_, rfl⟩
          have e7 : IntKind.i64.wrap ((a : Int) + N) = (an : Int) := by have := HN.out; rw [IntWalk.i64_in _ (by omega)]; omega
          rw [← han] at HEQ6
          have HAN := Lib.hid han
          clear han
          go_wp2_with fail
          have hA7 : StAt (bf + 1) (W6.setCell ⟨bf, 0, none⟩ (.int .i64 (an : Int))) bf bo w.heap.size s an (.slice q6 n6 c6) (O2 ++ [UInt8.ofNat M, s[a]'hlt]) := by
            have ha := HA6.out
            exact ⟨set_row (i := 0) (cs := [.int .i64 (a : Int)]) ha.f (.int .i64 (an : Int)), (heap_setCell_other _ _ _ _ (Ne.symm ha.ne.1)).trans ha.o, (heap_setCell_other _ _ _ _ (Ne.symm ha.ne.2.1)).trans ha.s, ha.own.set ha.lo.1 _ _, ha.lo, ha.ne⟩
          have HA7 := Lib.hid hA7
          have HW7 : Hid (Below w.heap.size w (W6.setCell ⟨bf, 0, none⟩ (.int .i64 (an : Int)))) := show Below _ _ _ from HW6.out.setCell (p := ⟨bf, 0, none⟩) hlo.1 _
          clear hA7
          go_roundw
          case rel => exact ⟨an, an, .slice q6 n6 c6, _, by have := HN.out; have := HAN.out; omega, Nat.le_refl _, by omega, by go_num, show ∀ j, _ from fun j h1 h2 => absurd h2 (by omega), HEQ6, HA7, HW7⟩
          case measure => simp [intOf]; have := HN.out; have := HAN.out; omega
    · obtain rfl : a = s.size := by omega
      go_wp2_with fail
      refine (HST.out (bf + 1) bf bo w.heap.size F s.size v O _ HA.out hFa (Nat.le_refl _) (by omega) hOl).mono ?_
      rintro e w2 ⟨rfl, ⟨v2, hA2⟩, hT2⟩
      have HEQ2 : Hid ((if F < s.size then O ++ UInt8.ofNat (s.size - F - 1) :: ((L.drop F).take (s.size - F)) else O) = rpk L) := show _ = _ from by
        have hnil : rpk (L.drop s.size) = [] := by rw [← HLL.out, List.drop_length]; rfl
        by_cases hFa2 : F < s.size
        · rw [if_pos hFa2, ← HEQ.out, rpk_stretch (s := L) (f := F) (a := s.size) hFa2 (by have := HLL.out; omega) (by omega) HNO.out (.inr (.inl HLL.out.symm)), hnil, List.append_nil]
        · have hFs : F = s.size := by omega
          rw [if_neg hFa2, ← HEQ.out, hFs, hnil, List.append_nil]
      rw [HEQ2.out] at hA2
      have hcv := hA2.own.conv
      have co := cell_of_one hA2.o
      have HB2 := Lib.hid (hT2.below HB.out hlo.1 hlo.2.1 hlo.2.2)
      clear hA2 hT2 cs
      go_wp2_with fail
      go_ret
      exact ⟨rfl, HB2.out⟩
end Go.Proofs.Ytbelofikknfoaaa
