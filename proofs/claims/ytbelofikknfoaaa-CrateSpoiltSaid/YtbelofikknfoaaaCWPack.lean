/- window.Pack: what the call does. -/
import Derived.Test.YtbelofikknfoaaaCWStart
import Derived.Test.YtbelofikknfoaaaCWPack7
import Derived.Laws.RangeString
import Derived.Outline
import Derived.Deep.CutBlock
namespace Go.Proofs.Ytbelofikknfoaaa
open Go.RowKit
set_option maxHeartbeats 4000000
set_option maxRecDepth 4000
theorem exec_look {P : Program} {o : Oper} {a : Act} {w : World} (t : TypeId) (m x : Operand) (hop : o.op = Op.lookup t m x false) {mv xv v : Value} (hm : a.eval m = mv) (hx : a.eval x = xv) (hr : (Instr.lookup t mv xv false).run P w = .ok v w) : (execOp a.eval o).run P w = .ok (.value v) w := by
  simp [execOp, hop, hm, hx, hr, Result.andThen]
theorem wpList_appZ2 {ops : Array Oper} {rest : List Oper} {o : Oper} {a : Act} {w : World} {Q : Exit → Act → World → Prop} (hgd : o.guard = none) (sl x : Operand) (tx : TypeId) (ho : o.op = .call { callee := .builtin .append, args := #[sl, x], argTypes := #[34, tx] }) (B : Nat) (v : Value) (xs : List UInt8) (hv : a.eval sl = v) (h : OwnZ B v xs w)
    (xv : Value) (hx : a.eval x = xv) (ys : List UInt8) (hs : Src Try.prog 1 tx xv ys.length (u8s ys) w) (hy : 0 < ys.length) (hl : xs.length + ys.length ≤ 140737488355328)
    (hK : ∀ v' w', Hid (OwnB B v' (xs ++ ys) w') → Hid (Below B w w') → Hid (∀ k, k < w.heap.size → v.ownBlock ≠ some k → w'.heap[k]? = w.heap[k]?) → Hid (OwnNew w v v') → wpList Try.prog ops Q rest (a.put o.dst v') w') : wpList Try.prog ops Q (o :: rest) a w :=
  wpList_plain hgd fun K hK' => wp_appZ2 sl x tx ho B v xs hv h xv hx ys hs hy hl fun v' w' h1 h2 h3 h4 => hK' _ _ (hK v' w' h1 h2 h3 h4)
theorem wpack_any (s : ByteArray) (w : World) (hs : s.size ≤ 65536) :
    Calls Try.prog 30 #[.string s] w fun e w' => e = .returned (.string (bstr (wpk s.data.toList))) ∧ Below w.heap.size w w' := by
  obtain ⟨K, hK⟩ : ∃ K, K = bstr statL ++ s := ⟨_, rfl⟩
  have hKs : K.size = s.size + 68 := by rw [hK, ByteArray.size_append]; show 68 + _ = _; omega
  obtain ⟨R, hR⟩ : ∃ R, R = wpk s.data.toList := ⟨_, rfl⟩
  have HR : Hid (wpF K 68 68 = R) := show _ = _ from by rw [hR, hK, wpk, ← bstr_append]; rfl
  have hRl : R.length ≤ 131072 := by
    have := wpF_length K _ 68 68 (Nat.le_refl _) (Nat.le_refl _) (by omega)
    rw [HR.out] at this
    omega
  rw [← hR]
  have hKb : K.size ≤ 65604 := by omega
  have hK68 : 68 ≤ K.size := by omega
  have hsz : 68 + s.size ≤ 9223372036854775807 := by omega
  have hKe : (⟨#[116, 114, 97, 110, 115, 102, 101, 114, 32, 112, 97, 121, 32, 116, 111, 32, 102, 114, 111, 109, 32, 108, 97, 110, 101, 32, 98, 105, 100, 32, 102, 101, 101, 32, 110, 111, 110, 99, 101, 32, 114, 111, 117, 110, 100, 32, 98, 97, 116, 99, 104, 32, 100, 101, 108, 97, 121, 101, 100, 32, 48, 49, 50, 51, 52, 53, 54, 55]⟩ : ByteArray) ++ s = K := hK.symm
  obtain ⟨W0, hW0, hn0, hr0, hb0⟩ := note_start w K (bstr statL)
  have HN0 := Lib.hid hn0
  have HI0 := Lib.hid hr0
  have HB0 := Lib.hid hb0
  have HW0 := Lib.hid hW0
  have hmm := @run_makeMap Try.prog
  have HNX : Hid (∀ (W : World) (r pos : Nat), W.heap[r]? = some (.stringIter (bstr statL) pos) → pos < 68 → ∃ c, ∀ ty, (Instr.next (.pointer (some ⟨r, 0, none⟩)) true ty).run Try.prog W = .ok (.tuple #[.bool true, .int .i64 pos, .int .i32 c]) (setIter W r (bstr statL) (pos + 1))) := show ∀ W, _ from fun W r pos hb h => ⟨_, fun ty => run_next_at hb h (stat_ascii pos h) ty⟩
  have HNY : Hid (∀ (W : World) (r : Nat) (ty : TypeId), W.heap[r]? = some (.stringIter (bstr statL) 68) → (Instr.next (.pointer (some ⟨r, 0, none⟩)) true ty).run Try.prog W = .ok (.tuple #[.bool false]) W) := show ∀ W, _ from fun W r ty hb => run_next_over hb (by show ¬ 68 < 68; omega) ty
  clear hKs hR hK hW0 hn0 hr0 hb0
  go_enter Try.func30, Try.ntmps30
  go_upto_region 2 with fail
  clear hKe
  go_wp2_with fail
  have HWE : Hid (∀ Q : World → Prop, Q W0 → Q ((((w.alloc (.cells #[.string K] 9)).alloc (.map #[] 0)).alloc (.cells #[.map (some (w.heap.size + 1))] 49)).iter (bstr statL) 0)) := show ∀ Q : World → Prop, _ from fun Q h => by rw [← HW0.out]; exact h
  refine HWE.out _ ?_
  clear HWE HW0
  have hlt3 : w.heap.size + 1 + 1 + 1 < W0.heap.size := block_lt HI0.out
  generalize hr : w.heap.size + 1 + 1 + 1 = r at *
  generalize hbs : w.heap.size + 1 + 1 = bs at *
  generalize hbm : w.heap.size + 1 = bm at *
  have hm1 : w.heap.size < bm := by omega
  have hm2 : bm < bs := by omega
  have hm3 : bs < r := by omega
  clear hr hbs hbm
  go_loopg [6] 68 (fun gk i wr => ∃ pos : Nat, pos + gk = 68 ∧ Hid (NoteAt wr w.heap.size bs bm bs K pos (fun j => j = w.heap.size ∨ j = bs ∨ j = r)) ∧ Hid (wr.heap[r]? = some (.stringIter (bstr statL) pos)) ∧ Hid (Below w.heap.size w wr))
  case atStart => exact ⟨0, by omega, HN0, HI0, HB0⟩
  case round =>
    obtain ⟨pos, hpg, HN, HI, HB⟩ := hrel
    by_cases hlt : pos < 68
    · obtain ⟨c, hc⟩ := HNX.out wr r pos HI.out hlt
      obtain ⟨W1, hW1⟩ : ∃ W1, W1 = setIter wr r (bstr statL) (pos + 1) := ⟨_, rfl⟩
      rw [← hW1] at hc
      have hrl := block_lt HI.out
      have hg1 : wr.grownBy W1 (some r) := by rw [hW1]; exact setIter_grown _ _ _ _
      have hn1 := HN.out.kept hg1 fun j hj => by
        cases hj
        refine ⟨.inr (.inr rfl), by omega, by omega, by omega⟩
      have HI1 : Hid (W1.heap[r]? = some (.stringIter (bstr statL) (pos + 1))) := show _ = _ from by rw [hW1]; exact setIter_here hrl
      have HB1 : Hid (Below w.heap.size w W1) := HB.out.trans ⟨hg1.os, hg1.tape, hg1.output, hg1.size, fun k hk => hg1.block k (Nat.lt_of_lt_of_le hk HB.out.size) (fun e => by injection e with e; omega)⟩
      have HC := note_any w.heap.size bs bm bs K pos _ W1 hn1 (by omega) (by omega) (.inl rfl) (.inr (.inl rfl))
      have HCC := Lib.hid HC
      clear HC hn1 hg1 hW1 hrl
      go_wp2_with fail
      refine (HCC.out).mono ?_
      rintro e W2 ⟨rfl, hn2, hT2⟩
      have HN2 := Lib.hid hn2
      have HI2 : Hid (W2.heap[r]? = some (.stringIter (bstr statL) (pos + 1))) := show _ = _ from (hT2.block r (block_lt HI1.out) (by omega) (.inl (.inr (.inr rfl)))).trans HI1.out
      have HB2 : Hid (Below w.heap.size w W2) := HB1.out.trans ⟨hT2.os, hT2.tape, hT2.output, hT2.size, fun k hk => hT2.block k (Nat.lt_of_lt_of_le hk HB1.out.size) (by omega) (.inr (by omega))⟩
      clear hn2 hT2 hc
      go_wp2_with fail
      go_roundg (gk - 1)
      case measure => omega
      case rel => exact ⟨pos + 1, by omega, HN2, HI2, HB2⟩
    · obtain rfl : pos = 68 := by omega
      have hc := fun ty => HNY.out wr r ty HI.out
      obtain ⟨W5, hW5⟩ : ∃ W5, W5 = (wr.alloc (.cells #[.slice none 0 0] 34)).alloc (.cells #[.int .i64 (68 : Nat)] 3) := ⟨_, rfl⟩
      have HP0 := Lib.hid (WP.start HN.out HB.out rfl ⟨Nat.le_refl _, by omega, by omega, by omega⟩ (.inl rfl) (.inr (.inl rfl)) 68 hW5)
      have HWE : Hid (∀ Q : World → Prop, Q W5 → Q ((wr.alloc (.cells #[.slice none 0 0] 34)).alloc (.cells #[.int .i64 (68 : Nat)] 3))) := show ∀ Q : World → Prop, _ from fun Q h => by rw [← hW5]; exact h
      clear HNX HNY hW5 HN HB HN0 HI0 HB0 hmm hpg hlt hm3
      go_wp2_with fail
      refine HWE.out _ ?_
      clear HWE hc HI
      generalize wr.heap.size + 1 = bf at *
      generalize wr.heap.size = bo at *
      go_loopw [10] (fun at_ wr => ∃ (a f : Nat) (v : Value) (O : List UInt8), 68 ≤ f ∧ f ≤ a ∧ a ≤ K.size ∧ a - f < 128 ∧ at_ = .int .i64 a ∧ Hid (O ++ wpF K a f = R) ∧ Hid (WP w.heap.size w wr w.heap.size bs bm bs bf bo K a f v O)) (fun at_ _ => K.size - (intOf at_).toNat)
      case atStart => exact ⟨68, 68, _, [], by omega, by omega, by omega, by omega, rfl, HR, HP0⟩
      case round =>
        obtain ⟨a, f, v, O, h68, hfa, hak, h128, rfl, HEQ, HP⟩ := hrel
        have hOl : O.length ≤ 131072 := by
          have h1 := congrArg List.length HEQ.out
          rw [List.length_append] at h1
          omega
        have ck := cell_of_one HP.out.note.k
        by_cases hlt : a < K.size
        · have d0 : decide ((a : Int) < K.size) = true := decide_eq_true (by omega)
          have cs := cell_of_one HP.out.note.s
          obtain ⟨a4, ha4⟩ : ∃ x, x = a + 4 := ⟨_, rfl⟩
          have e1 : IntKind.i64.wrap ((a : Int) + 4) = (a4 : Int) := by rw [IntWalk.i64_in _ (by omega)]; omega
          obtain ⟨r2, hr2⟩ : ∃ r2, r2 = if a4 ≤ K.size then lng K a (occ K.data.toList a ((K.data.toList.drop a).take 4)) (occ K.data.toList a ((K.data.toList.drop a).take 4)).length 0 0 else (0, 0) := ⟨_, rfl⟩
          have HALI : Hid (Ali (bst K a) r2) := show Ali _ _ from by
            by_cases h4 : a4 ≤ K.size
            · rw [hr2, if_pos h4]
              exact lng_is (by omega) _ rfl
            · rw [hr2, if_neg h4]
              have := bstD_le hak (min a 32768)
              exact .inl ⟨by show (bstD K a (min a 32768)).1 < 4; omega, rfl⟩
          have HA4 := Lib.hid ha4
          have HR2 := Lib.hid hr2
          clear ha4 hr2
          go_upto_if 34 with fail
          go_cut [11, 12] (fun n b wx => n = .int .i64 (r2.1 : Nat) ∧ b = .int .i64 (r2.2 : Nat) ∧ ∃ m, wx = wr.drewN m)
          case first =>
            by_cases h4 : a4 ≤ K.size
            · have ha4 := HA4.out
              have hr2 := HR2.out
              have d1 : decide ((a4 : Int) ≤ K.size) = true := decide_eq_true (by omega)
              have d1' : decide (a4 ≤ K.size) = true := decide_eq_true h4
              obtain ⟨q, zs, c, hzs, hlk, hcl⟩ := HP.out.note.look (a := a) (by omega) (by omega) (by omega)
              have hzl : zs.length ≤ a := by rw [hzs]; exact occ_length _ _ _
              have HLONG : Hid (∀ m9, Calls Try.prog 40 #[.string K, .int .i64 a, .slice q zs.length c] (wr.drewN m9) fun e w' => e = .returned (.tuple #[.int .i64 (r2.1 : Nat), .int .i64 (r2.2 : Nat)]) ∧ ∃ m, w' = wr.drewN m) := show ∀ m9, _ from fun m9 => by
                refine (longest_any K a q c zs (wr.drewN m9) (by omega) hak (by omega) (fun j hj => ?_) (fun j hj => hcl j hj)).mono ?_
                · have : zs.getD j 0 ∈ zs := by
                    rw [List.getD_eq_getElem?_getD, List.getElem?_eq_getElem hj]
                    exact List.getElem_mem hj
                  rw [hzs] at this ⊢
                  exact occ_lt _ _ _ _ this
                · rintro e w' ⟨rfl, m, rfl⟩
                  refine ⟨by rw [hr2, if_pos h4, hzs], m9 + m, by rw [World.drewN_drewN]⟩
              rw [← ha4] at hlk
              have HLK := Lib.hid hlk
              have f0 : (0 : Int) ≤ a := by omega
              have f1 : (a : Int) ≤ a4 := by omega
              have f2 : (a4 : Int) ≤ K.size := by omega
              have f3 : a ≤ a4 := by omega
              clear hr2 ha4 hzs hlk hcl
              go_wp2_with fail
              refine wp_region_classW (fun W => ∃ m, W = wr.drewN m) (by kernel_rfl) (by kernel_rfl) ⟨1, by rfl⟩ ?_
              iterate 8
                refine WQ.gen (v := ?_) (by kernel_rfl) ?_ ?_
                rotate_left
                · rintro W ⟨m9, rfl⟩
                  go_simp
                  try with_reducible rfl
                refine WQ.eq (a' := ?_) ?_ ?_
                rotate_left
                · try simp only [Act.put, List.setIfInBounds_toArray, List.set_cons_zero, List.set_cons_succ]
                  exact rfl
              refine WQ.gen (v := .slice q zs.length c) (by kernel_rfl) ?_ ?_
              · rintro W ⟨m9, rfl⟩
                exact exec_look 49 (.tmp 38) (.tmp 43) rfl (by rfl) (by rfl) (HLK.out m9)
              refine WQ.eq (a' := ?_) ?_ ?_
              rotate_left
              · try simp only [Act.put, List.setIfInBounds_toArray, List.set_cons_zero, List.set_cons_succ]
                exact rfl
              refine WQ.call (f := 40) (args := #[.string K, .int .i64 a, .slice q zs.length c]) (v := .tuple #[.int .i64 (r2.1 : Nat), .int .i64 (r2.2 : Nat)]) (by kernel_rfl) (fun W hC => ?_) (fun W hC => ?_) ?_
              · obtain ⟨m9, rfl⟩ := hC
                go_simp
                try with_reducible rfl
              · obtain ⟨m9, rfl⟩ := hC
                exact HLONG.out m9
              refine WQ.eq (a' := ?_) ?_ ?_
              rotate_left
              · try simp only [Act.put, List.setIfInBounds_toArray, List.set_cons_zero, List.set_cons_succ]
                exact rfl
              iterate 5
                refine WQ.gen (v := ?_) (by kernel_rfl) ?_ ?_
                rotate_left
                · rintro W ⟨m9, rfl⟩
                  go_simp
                  try with_reducible rfl
                refine WQ.eq (a' := ?_) ?_ ?_
                rotate_left
                · try simp only [Act.put, List.setIfInBounds_toArray, List.set_cons_zero, List.set_cons_succ]
                  exact rfl
              refine WQ.nil ?_
              rintro w2 ⟨m3, rfl⟩
              go_wp2_with fail
              go_meet
              case rel => exact ⟨rfl, rfl, m3, rfl⟩
            · have d1 : decide ((a4 : Int) ≤ K.size) = false := decide_eq_false (by omega)
              have d1' : decide (a4 ≤ K.size) = false := decide_eq_false h4
              obtain rfl : r2 = (0, 0) := by rw [HR2.out, if_neg h4]
              go_wp2_with fail
              go_meet
              case rel => exact ⟨rfl, rfl, 0, rfl⟩
          case rest =>
            obtain ⟨rfl, rfl, m3, rfl⟩ := hcut
            have HP1 := Lib.hid (HP.out.drewN m3)
            clear HP ck cs HA4 HR2 e1
            generalize wr.drewN m3 = w1 at *
            obtain ⟨n, bk⟩ := r2
            simp only at HALI ⊢
            obtain ⟨a1, ha1⟩ : ∃ x, x = a + 1 := ⟨_, rfl⟩
            have e2 : IntKind.i64.wrap ((a : Int) + 1) = (a1 : Int) := by rw [IntWalk.i64_in _ (by omega)]; omega
            by_cases hn4 : n < 4
            · have d2 : decide ((n : Int) < 4) = true := decide_eq_true (by omega)
              have d2' : decide (n < 4) = true := decide_eq_true hn4
              have HB4 : Hid ((bst K a).1 < 4) := show _ < _ from by
                rcases HALI.out with h | h
                · exact h.1
                · rw [← h.2]; exact hn4
              have HC := Lib.hid (note_any w.heap.size bs bm bs K a _ w1 HP1.out.note (by omega) hak (.inl rfl) (.inr (.inl rfl)))
              have HA1 := Lib.hid ha1
              have ha2 : a1 ≤ K.size := by omega
              have ha3 : a < a1 := by omega
              have ha4 : a1 ≤ a + 1 := by omega
              clear ha1
              go_wp2_with fail
              refine HC.out.mono ?_
              rintro e w2 ⟨rfl, hn2, hT2⟩
              have HP2 : Hid (WP w.heap.size w w2 w.heap.size bs bm bs bf bo K a1 f v O) := show WP _ _ _ _ _ _ _ _ _ _ _ _ _ _ from by rw [HA1.out]; exact HP1.out.noted hn2 hT2
              have cf := cell_of_one HP2.out.st.f
              obtain ⟨d, hd⟩ : ∃ d, d = a1 - f := ⟨_, rfl⟩
              have e3 : IntKind.i64.wrap ((a1 : Int) - f) = (d : Int) := by rw [IntWalk.i64_in _ (by omega)]; omega
              clear hn2 hT2
              by_cases h8 : d = 128
              · have d3 : ((d : Int) == 128) = true := by rw [beq_iff_eq]; omega
                have HSP : Hid (wpF K a f = litW K f a1 ++ wpF K a1 a1) := show _ = _ from by rw [HA1.out]; exact wpF_cut hlt HB4.out (by have := HA1.out; omega)
                have HS := Lib.hid (stretch2_any w.heap.size bf bo w.heap.size K f a1 v O w2 HP2.out.st (by omega) ha2 (by omega) (by omega) (by omega))
                clear hd h8
                go_wp2_with fail
                refine HS.out.mono ?_
                rintro e w3 ⟨rfl, v3, hs3, hT3⟩
                have HP3 := Lib.hid (HP2.out.laid hs3 hT3 fun j hj => hs3.rowlt hj)
                have HP4 := Lib.hid (HP3.out.from a1)
                have cf3 := cell_of_one HP3.out.st.f
                have cz3 : w3.frozen? ⟨bf, 0, none⟩ = false := frozen_of_row w3 bf 0 _ _ HP3.out.st.f
                clear hs3 hT3 cf
                go_wp2_with fail
                go_roundw
                case rel => exact ⟨a1, a1, v3, _, by omega, by omega, by omega, by omega, by go_num, show _ = _ from by rw [← HEQ.out, HSP.out, List.append_assoc], HP4⟩
                case measure => simp [intOf]; omega
              · have d3 : ((d : Int) == 128) = false := by rw [beq_eq_false_iff_ne]; omega
                have HSP : Hid (wpF K a f = wpF K a1 f) := show _ = _ from by rw [HA1.out]; exact wpF_lit hlt HB4.out (by have := HA1.out; omega)
                have hd1 : a1 - f < 128 := by omega
                clear hd h8
                go_wp2_with fail
                go_roundw
                case rel => exact ⟨a1, f, v, O, by omega, by omega, by omega, by omega, by go_num, show _ = _ from by rw [← HEQ.out, HSP.out], HP2⟩
                case measure => simp [intOf]; omega
            · have d2 : decide ((n : Int) < 4) = false := decide_eq_false (by omega)
              have d2' : decide (n < 4) = false := decide_eq_false hn4
              have HNB : Hid (bst K a = (n, bk)) := show _ = _ from by
                rcases HALI.out with h | h
                · have := (Prod.mk.inj h.2).1; omega
                · exact h.2.symm
              have hbd := bstD_le hak (min a 32768)
              have hbd2 : bstD K a (min a 32768) = (n, bk) := HNB.out
              rw [hbd2] at hbd
              simp only at hbd
              have HSP : Hid (wpF K a f = litW K f a ++ (mtW n bk ++ wpF K (a + n) (a + n))) := show _ = _ from wpF_match hlt HNB.out (by omega)
              obtain ⟨M, hM⟩ : ∃ M, M = n + 124 := ⟨_, rfl⟩
              obtain ⟨D, hD⟩ : ∃ D, bk = D + 1 := ⟨bk - 1, by have := hbd.2.2.2 (by omega); omega⟩
              have g1 : IntKind.i64.wrap ((n : Int) + 124) = (M : Int) := by rw [IntWalk.i64_in _ (by omega)]; omega
              have g2 : IntKind.u8.wrap (M : Int) = M := IntWalk.u8_in _ (by omega)
              have g3 : IntKind.i64.wrap ((bk : Int) - 1) = (D : Int) := by rw [IntWalk.i64_in _ (by omega)]; omega
              have HMW : Hid (mtW n bk = [UInt8.ofNat M, UInt8.ofNat (D / 256), UInt8.ofNat (D % 256)]) := show _ = _ from by rw [hM, hD]; rfl
              have hM2 : M < 256 := by omega
              have hD2 : D < 32768 := by omega
              have hn1 : 4 ≤ n := by omega
              have hn2 : a + n ≤ K.size := by omega
              have hn3 : n ≤ 130 := by omega
              have HS := Lib.hid (stretch2_any w.heap.size bf bo w.heap.size K f a v O w1 HP1.out.st hfa hak (by omega) (by omega) (by omega))
              have HM1 : Hid ((M : Int) = ((UInt8.ofNat M).toNat : Int)) := show _ = _ from by rw [UInt8.toNat_ofNat_of_lt' (show M < 256 by omega)]
              have HM3 : Hid ((D : Int) / 256 = ((UInt8.ofNat (D / 256)).toNat : Int)) := show _ = _ from by rw [UInt8.toNat_ofNat_of_lt' (show D / 256 < 256 by omega)]; omega
              have HM4 : Hid ((D : Int) % 256 = ((UInt8.ofNat (D % 256)).toNat : Int)) := show _ = _ from by rw [UInt8.toNat_ofNat_of_lt' (show D % 256 < 256 by omega)]; omega
              have hll : (O ++ litW K f a).length ≤ 262144 := by
                have := litW_length K f a
                rw [List.length_append]; omega
              have HLL := Lib.hid hll
              clear ha1 hM hD hbd hbd2 hll e2
              go_wp2_with fail
              refine HS.out.mono ?_
              rintro e w3 ⟨rfl, v3, hs3, hT3⟩
              have HP3 := Lib.hid (HP1.out.laid hs3 hT3 fun j hj => hs3.rowlt hj)
              have co3 := cell_of_one HP3.out.st.o
              have HPA := Lib.hid (HP3.out.alloc (.cells #[.int .u8 (M : Int), .int .u8 ((D : Int) / 256), .int .u8 ((D : Int) % 256)] 5))
              clear hs3 hT3
              go_wp2_with ((at_builtin; refine wpList_appZ2 rfl (.tmp 66) (.tmp 77) 34 rfl w.heap.size v3 (O ++ litW K f a) rfl HPA.out.st.own _ rfl [UInt8.ofNat M, UInt8.ofNat (D / 256), UInt8.ofNat (D % 256)] (byte_src3 HM1.out HM3.out HM4.out (heap_alloc_new w3 _)) (Nat.succ_pos _) (by have := HLL.out; simp only [List.length_cons, List.length_nil]; omega) ?_); intro v6 w6 HO6 HB6 HK6 HN6; obtain ⟨q6, n6, c6, rfl⟩ := OwnZ.sh (.inr HO6.out); have HP6 := Lib.hid (HPA.out.out HO6.out HB6.out HK6.out HN6.out); have ho6 := (HK6.out bo (block_lt HPA.out.st.o) (fun e => HPA.out.st.own.row_ne e HPA.out.st.o (by decide) rfl)).trans HPA.out.st.o; have co6 : w6.cell? ⟨bo, 0, none⟩ = some v3 := cell_of_one ho6; have cz6 : w6.frozen? ⟨bo, 0, none⟩ = false := frozen_of_row w6 bo 0 _ _ ho6; clear ho6 co3)
              go_loopg [10, 80] n (fun gk at_ i wr => ∃ i0 t : Nat, i0 + gk = n ∧ t ≤ a + i0 ∧ a + i0 ≤ t ∧ i = .int .i64 i0 ∧ at_ = .int .i64 t ∧ Hid (WP w.heap.size w wr w.heap.size bs bm bs bf bo K t f (.slice q6 n6 c6) (O ++ litW K f a ++ [UInt8.ofNat M, UInt8.ofNat (D / 256), UInt8.ofNat (D % 256)])))
              case atStart => exact ⟨0, a, by omega, by omega, by omega, rfl, rfl, HP6⟩
              case round =>
                obtain ⟨i0, t, hi, ht1, ht2, rfl, rfl, HPt⟩ := hrel
                by_cases hin : i0 < n
                · have dd : decide ((i0 : Int) < n) = true := decide_eq_true (by omega)
                  have HC := Lib.hid (note_any w.heap.size bs bm bs K t _ wr HPt.out.note (by omega) (by omega) (.inl rfl) (.inr (.inl rfl)))
                  go_wp2_with fail
                  refine HC.out.mono ?_
                  rintro e w8 ⟨rfl, hn8, hT8⟩
                  have HP8 := Lib.hid (HPt.out.noted hn8 hT8)
                  clear hn8 hT8
                  go_wp2_with fail
                  go_roundg (gk - 1)
                  case measure => omega
                  case rel => exact ⟨i0 + 1, t + 1, by omega, by omega, by omega, by go_num, by go_num, HP8⟩
                · obtain rfl : i0 = n := by omega
                  have dd : decide ((i0 : Int) < i0) = false := decide_eq_false (by omega)
                  have cf8 := cell_of_one HPt.out.st.f
                  have cz8 : wr.frozen? ⟨bf, 0, none⟩ = false := frozen_of_row wr bf 0 _ _ HPt.out.st.f
                  have HP9 := Lib.hid (HPt.out.from t)
                  have HTT : Hid (t = a + i0) := show _ = _ from by omega
                  go_wp2_with fail
                  go_roundw
                  case rel => exact ⟨t, t, _, _, by omega, by omega, by omega, by omega, rfl, show _ = _ from by rw [← HEQ.out, HSP.out, HMW.out, HTT.out]; simp [List.append_assoc], HP9⟩
                  case measure => simp [intOf]; omega
        · obtain rfl : a = K.size := by omega
          have d0 : decide ((K.size : Int) < K.size) = false := decide_eq_false (by omega)
          have HS := Lib.hid (stretch2_any w.heap.size bf bo w.heap.size K f K.size v O wr HP.out.st hfa hak (by omega) (by omega) (by omega))
          go_wp2_with fail
          refine HS.out.mono ?_
          rintro e w3 ⟨rfl, v3, hs3, hT3⟩
          have HP3 := Lib.hid (HP.out.laid hs3 hT3 fun j hj => hs3.rowlt hj)
          have co3 := cell_of_one hs3.o
          have hcv : (convert 34 9 v3).run Try.prog w3 = .ok (.string (bstr R)) w3 := by
            have h1 := hs3.own.conv
            have h2 := HEQ.out
            rw [wpF_end (Nat.le_refl _)] at h2
            rw [h2] at h1
            exact h1
          clear hs3 hT3
          go_wp2_with fail
          go_ret
          exact ⟨rfl, HP3.out.below⟩
end Go.Proofs.Ytbelofikknfoaaa
