/- window.longest: what the call does. -/
import Derived.Test.YtbelofikknfoaaaCBest
import Derived.Deep.QuietTactic
import Derived.BigQuiet
import Derived.Outline
import Derived.WalkMore
import Derived.ScopeJumps
import Derived.Maps.OwnRows
namespace Go.Proofs.Ytbelofikknfoaaa
open Go.RowKit
set_option maxHeartbeats 4000000
set_option maxRecDepth 4000
/-- the longest match with one of the places that are noted, the last ones first -/
def lng (K : ByteArray) (a : Nat) (zs : List Nat) : Nat → Nat → Nat → Nat × Nat
  | 0, n, b => (n, b)
  | c + 1, n, b =>
    if 32768 < a - zs.getD c 0 then (n, b)
    else if n < mch K a (zs.getD c 0) then
      (if mch K a (zs.getD c 0) = min 130 (K.size - a) then (mch K a (zs.getD c 0), a - zs.getD c 0) else lng K a zs c (mch K a (zs.getD c 0)) (a - zs.getD c 0))
    else if n = min 130 (K.size - a) then (n, b) else lng K a zs c n b
theorem wp_scope_jumps2 {P : Program} {a : Act} {w : World} {Q : Exit → Act → World → Prop} {c rest : Code} (l : Nat) (J : Act → World → Prop) (μ : Act → World → Nat) (hf : findLabel c l = some (Code.skip.seq rest))
    (pass : ∀ a w, J a w → rest.wp P (Exit.jump l (fun a' w' => J a' w' ∧ μ a' w' < μ a w) Q) a w)
    (first : (∀ a w, J a w → rest.wp P (Exit.jump l J Q) a w) → c.wp P (Exit.jump l J Q) a w) : (Code.scope c).wp P Q a w := by
  refine wp_scope_jumps l J μ hf (first fun a w h => Code.wp_mono ?_ (pass a w h)) fun a w h => wp_seq (wp_skip (pass a w h))
  intro e a' w' h
  cases e <;> first | exact h | exact ⟨h.1, h.2.1⟩
/-- what holds at each jump -/
def JLong (K : ByteArray) (a : Nat) (q : Option Addr) (ln c mo : Nat) (zs : List Nat) (R : Nat × Nat) (w : World) (k : Nat) (a' : Act) (w' : World) : Prop :=
  ∃ (m n b : Nat) (i : Int) (u6 u7 : Value) (US : List Value), w' = w.drewN m ∧ k ≤ ln ∧ i ≤ (k : Int) - 1 ∧ (k : Int) - 1 ≤ i ∧ n ≤ 130 ∧ Hid (lng K a zs k n b = R) ∧ US.length = 60 ∧ a' = { tmps := (.string K :: .int .i64 a :: .slice q ln c :: undef :: undef :: undef :: u6 :: u7 :: .int .i64 mo :: .int .i64 n :: .int .i64 b :: .int .i64 i :: US).toArray, defers := [] }
theorem len_succ {n : Nat} {l : List Value} (h : l.length = n + 1) : ∃ x r, l = x :: r ∧ r.length = n := by
  cases l with
  | nil => simp at h
  | cons x r => exact ⟨x, r, rfl, by simpa using h⟩
def muLong (a' : Act) : Nat := (intOf (a'.tmps.getD 11 undef) + 1).toNat
theorem longest_any (K : ByteArray) (a : Nat) (q : Option Addr) (c : Nat) (zs : List Nat) (w : World) (hK : K.size ≤ 1073741824) (ha : a ≤ K.size) (hl : zs.length ≤ 1073741824) (hz : ∀ j, j < zs.length → zs.getD j 0 < a)
    (hc : ∀ j, j < zs.length → ∃ g, q = some ⟨g, 0, none⟩ ∧ w.cell? ⟨g, j, none⟩ = some (.int .i64 (zs.getD j 0 : Nat))) :
    Calls Try.prog 40 #[.string K, .int .i64 a, .slice q zs.length c] w fun e w' => e = .returned (.tuple #[.int .i64 (lng K a zs zs.length 0 0).1, .int .i64 (lng K a zs zs.length 0 0).2]) ∧ ∃ m, w' = w.drewN m := by
  obtain ⟨ln, hln⟩ : ∃ k, k = zs.length := ⟨_, rfl⟩
  obtain ⟨R, hR⟩ : ∃ R, R = lng K a zs zs.length 0 0 := ⟨_, rfl⟩
  rw [← hR, ← hln]
  have HR0 : Hid (lng K a zs ln 0 0 = R) := show _ = _ from by rw [hln, hR]
  have HZ : Hid (∀ j, j < ln → zs.getD j 0 < a) := show ∀ j, _ from by rw [hln]; exact hz
  have HC : Hid (∀ j, j < ln → ∃ g, q = some ⟨g, 0, none⟩ ∧ w.cell? ⟨g, j, none⟩ = some (.int .i64 (zs.getD j 0 : Nat))) := show ∀ j, _ from by rw [hln]; exact hc
  have hl1 : ln ≤ 1073741824 := by omega
  clear hR hz hc hl hln
  obtain ⟨mo, hmo⟩ : ∃ k, k = min 130 (K.size - a) := ⟨_, rfl⟩
  have HMO : Hid (mo = min 130 (K.size - a)) := show _ = _ from hmo
  have hm1 : mo ≤ 130 := by omega
  have hm2 : a + mo ≤ K.size := by omega
  have HA0 : Hid (∀ y j (hj : a + j < K.size) (hi : y + j < K.size), j < 0 → K[a + j]'hj = K[y + j]'hi) := show ∀ y, _ from fun y j hj hi hn => by omega
  obtain ⟨rs, hrs⟩ : ∃ k, k = K.size - a := ⟨_, rfl⟩
  have es : IntKind.i64.wrap ((K.size : Int) - a) = (rs : Int) := by rw [IntWalk.i64_in _ (by omega)]; omega
  obtain ⟨il, hil⟩ : ∃ i : Int, i = (ln : Int) - 1 := ⟨_, rfl⟩
  have el : IntKind.i64.wrap ((ln : Int) - 1) = il := by rw [IntWalk.i64_in _ (by omega)]; omega
  have hil1 : il ≤ (ln : Int) - 1 := by omega
  have hil2 : (ln : Int) - 1 ≤ il := by omega
  have HMM : Hid (∀ h : (130 : Int) ≤ rs, (130 : Int) = mo) := show _ → _ from fun h => by omega
  have HMM2 : Hid (∀ h : ¬ (130 : Int) ≤ rs, (rs : Int) = mo) := show _ → _ from fun h => by omega
  clear hmo hil
  go_enter Try.func40, Try.ntmps40
  go_wp2_with fail
  refine wp_scope_jumps2 0 (fun a' w' => ∃ k, JLong K a q ln c mo zs R w k a' w') (fun a' _ => muLong a') rfl ?_ ?_
  · rintro a' w' ⟨k, hJ⟩
    have hmu : muLong a' = k := by
      obtain ⟨m, n, b, i, u6, u7, US, rfl, hk, hi1, hi2, hn, HEQ, hUS, rfl⟩ := hJ
      show (i + 1).toNat = k
      omega
    rw [hmu]
    clear hmu
    obtain ⟨m, n, b, i, u6, u7, US, rfl, hk, hi1, hi2, hn, HEQ, hUS, rfl⟩ := hJ
    obtain ⟨u12, V13, rfl, hU13⟩ := len_succ hUS
    obtain ⟨u13, V14, rfl, hU14⟩ := len_succ hU13
    obtain ⟨u14, V15, rfl, hU15⟩ := len_succ hU14
    obtain ⟨u15, V16, rfl, hU16⟩ := len_succ hU15
    obtain ⟨u16, V17, rfl, hU17⟩ := len_succ hU16
    obtain ⟨u17, V18, rfl, hU18⟩ := len_succ hU17
    obtain ⟨u18, V19, rfl, hU19⟩ := len_succ hU18
    obtain ⟨u19, V20, rfl, hU20⟩ := len_succ hU19
    obtain ⟨u20, V21, rfl, hU21⟩ := len_succ hU20
    obtain ⟨u21, V22, rfl, hU22⟩ := len_succ hU21
    obtain ⟨u22, V23, rfl, hU23⟩ := len_succ hU22
    obtain ⟨u23, V24, rfl, hU24⟩ := len_succ hU23
    obtain ⟨u24, V25, rfl, hU25⟩ := len_succ hU24
    obtain ⟨u25, V26, rfl, hU26⟩ := len_succ hU25
    obtain ⟨u26, V27, rfl, hU27⟩ := len_succ hU26
    obtain ⟨u27, V28, rfl, hU28⟩ := len_succ hU27
    obtain ⟨u28, V29, rfl, hU29⟩ := len_succ hU28
    obtain ⟨u29, V30, rfl, hU30⟩ := len_succ hU29
    obtain ⟨u30, V31, rfl, hU31⟩ := len_succ hU30
    obtain ⟨u31, V32, rfl, hU32⟩ := len_succ hU31
    obtain ⟨u32, V33, rfl, hU33⟩ := len_succ hU32
    obtain ⟨u33, V34, rfl, hU34⟩ := len_succ hU33
    obtain ⟨u34, V35, rfl, hU35⟩ := len_succ hU34
    obtain ⟨u35, V36, rfl, hU36⟩ := len_succ hU35
    obtain ⟨u36, V37, rfl, hU37⟩ := len_succ hU36
    obtain ⟨u37, V38, rfl, hU38⟩ := len_succ hU37
    obtain ⟨u38, V39, rfl, hU39⟩ := len_succ hU38
    obtain ⟨u39, V40, rfl, hU40⟩ := len_succ hU39
    obtain ⟨u40, V41, rfl, hU41⟩ := len_succ hU40
    obtain ⟨u41, V42, rfl, hU42⟩ := len_succ hU41
    obtain ⟨u42, V43, rfl, hU43⟩ := len_succ hU42
    obtain ⟨u43, V44, rfl, hU44⟩ := len_succ hU43
    obtain ⟨u44, V45, rfl, hU45⟩ := len_succ hU44
    obtain ⟨u45, V46, rfl, hU46⟩ := len_succ hU45
    obtain ⟨u46, V47, rfl, hU47⟩ := len_succ hU46
    obtain ⟨u47, V48, rfl, hU48⟩ := len_succ hU47
    obtain ⟨u48, V49, rfl, hU49⟩ := len_succ hU48
    obtain ⟨u49, V50, rfl, hU50⟩ := len_succ hU49
    obtain ⟨u50, V51, rfl, hU51⟩ := len_succ hU50
    obtain ⟨u51, V52, rfl, hU52⟩ := len_succ hU51
    obtain ⟨u52, V53, rfl, hU53⟩ := len_succ hU52
    obtain ⟨u53, V54, rfl, hU54⟩ := len_succ hU53
    obtain ⟨u54, V55, rfl, hU55⟩ := len_succ hU54
    obtain ⟨u55, V56, rfl, hU56⟩ := len_succ hU55
    obtain ⟨u56, V57, rfl, hU57⟩ := len_succ hU56
    obtain ⟨u57, V58, rfl, hU58⟩ := len_succ hU57
    obtain ⟨u58, V59, rfl, hU59⟩ := len_succ hU58
    obtain ⟨u59, V60, rfl, hU60⟩ := len_succ hU59
    obtain ⟨u60, V61, rfl, hU61⟩ := len_succ hU60
    obtain ⟨u61, V62, rfl, hU62⟩ := len_succ hU61
    obtain ⟨u62, V63, rfl, hU63⟩ := len_succ hU62
    obtain ⟨u63, V64, rfl, hU64⟩ := len_succ hU63
    obtain ⟨u64, V65, rfl, hU65⟩ := len_succ hU64
    obtain ⟨u65, V66, rfl, hU66⟩ := len_succ hU65
    obtain ⟨u66, V67, rfl, hU67⟩ := len_succ hU66
    obtain ⟨u67, V68, rfl, hU68⟩ := len_succ hU67
    obtain ⟨u68, V69, rfl, hU69⟩ := len_succ hU68
    obtain ⟨u69, V70, rfl, hU70⟩ := len_succ hU69
    obtain ⟨u70, V71, rfl, hU71⟩ := len_succ hU70
    obtain ⟨u71, V72, rfl, hU72⟩ := len_succ hU71
    obtain rfl := List.length_eq_zero_iff.1 hU72
    clear hUS hU13 hU14 hU15 hU16 hU17 hU18 hU19 hU20 hU21 hU22 hU23 hU24 hU25 hU26 hU27 hU28 hU29 hU30 hU31 hU32 hU33 hU34 hU35 hU36 hU37 hU38 hU39 hU40 hU41 hU42 hU43 hU44 hU45 hU46 hU47 hU48 hU49 hU50 hU51 hU52 hU53 hU54 hU55 hU56 hU57 hU58 hU59 hU60 hU61 hU62 hU63 hU64 hU65 hU66 hU67 hU68 hU69 hU70 hU71 hU72
    clear hrs es el HMM HMM2 HR0
    by_cases hk0 : k = 0
    · have d0 : decide (i < 0) = true := decide_eq_true (by omega)
      have HF : Hid (R = (n, b)) := show _ = _ from by rw [← HEQ.out, hk0]; rfl
      clear hk0
      go_wp2_with fail
      simp only [Exit.jump]
      go_ret2
      exact ⟨by rw [HF.out]; rfl, m, rfl⟩
    · obtain ⟨j, rfl⟩ : ∃ j, k = j + 1 := ⟨k - 1, by omega⟩
      obtain rfl : i = (j : Int) := by omega
      have d0 : decide ((j : Int) < 0) = false := decide_eq_false (by omega)
      obtain ⟨g, rfl, hcj⟩ := HC.out j (by omega)
      have hp := HZ.out j (by omega)
      obtain ⟨p, hpp⟩ : ∃ p, p = zs.getD j 0 := ⟨_, rfl⟩
      rw [← hpp] at hcj hp
      obtain ⟨bk, hbk⟩ : ∃ x, x = a - p := ⟨_, rfl⟩
      have e1 : IntKind.i64.wrap ((a : Int) - p) = (bk : Int) := by rw [IntWalk.i64_in _ (by omega)]; omega
      have f0 : (0 : Int) ≤ j := by omega
      have f1 : (j : Int) < ln := by omega
      have hjl : j < ln := by omega
      by_cases hfar : 32768 < bk
      · have d1 : decide (32768 < (bk : Int)) = true := decide_eq_true (by omega)
        have HF : Hid (R = (n, b)) := show _ = _ from by rw [← HEQ.out, lng, if_pos (by rw [← hpp]; omega)]
        clear hpp hbk hk0
        go_wp2_with fail
        simp only [Exit.jump]
        go_ret2
        exact ⟨by rw [HF.out]; rfl, m, rfl⟩
      · have d1 : decide (32768 < (bk : Int)) = false := decide_eq_false (by omega)
        obtain ⟨M, hM⟩ : ∃ M, M = mch K a p := ⟨_, rfl⟩
        have hM1 := mch_le ha p
        rw [← hM] at hM1
        have HM := Lib.hid hM
        have HLN : Hid (lng K a zs (j + 1) n b = if n < M then (if M = mo then (M, bk) else lng K a zs j M bk) else if n = mo then (n, b) else lng K a zs j n b) := show _ = _ from by
          rw [lng, ← hpp, ← hM, ← hbk, if_neg hfar, ← HMO.out]
        have HPA : Hid (p ≤ a) := show p ≤ a from by omega
        have hpa : p < a := hp
        clear hpp hM hk0 hbk
        have HBK : Hid (True) := show True from trivial
        go_upto_block 0 with fail
        go_cut [12] (fun t wx => t = .int .i64 M ∧ ∃ m, wx = w.drewN m)
        case first =>
          go_wp2_with fail
          go_loopg [12] mo (fun gk t wx => ∃ (k m : Nat), k + gk = mo ∧ t = .int .i64 k ∧ wx = w.drewN m ∧ Hid (∀ j (hj : a + j < K.size) (hi : p + j < K.size), j < k → K[a + j]'hj = K[p + j]'hi))
          case atStart => exact ⟨0, m, by omega, rfl, rfl, HA0.out p⟩
          case round =>
            obtain ⟨k, m2, hkm, rfl, rfl, HJ⟩ := hrel
            obtain ⟨k1, hk1⟩ : ∃ x, x = p + k := ⟨_, rfl⟩
            obtain ⟨k2, hk2⟩ : ∃ x, x = a + k := ⟨_, rfl⟩
            have g1 : IntKind.i64.wrap ((p : Int) + k) = (k1 : Int) := by rw [IntWalk.i64_in _ (by omega)]; omega
            have g2 : IntKind.i64.wrap ((a : Int) + k) = (k2 : Int) := by rw [IntWalk.i64_in _ (by omega)]; omega
            have f2 : (0 : Int) ≤ k1 := by omega
            have f3 : (0 : Int) ≤ k2 := by omega
            by_cases hlm : k < mo
            · have d2 : decide ((k : Int) < mo) = true := decide_eq_true (by omega)
              have d2' : decide (k < mo) = true := decide_eq_true hlm
              have h2s : k2 < K.size := by omega
              have h1s : k1 < K.size := by omega
              have f4 : (k1 : Int) < K.size := by omega
              have f5 : (k2 : Int) < K.size := by omega
              by_cases hc : K[k2]'h2s = K[k1]'h1s
              · have d3 : (((K[k1]'h1s).toNat : Int) == ((K[k2]'h2s).toNat : Int)) = true := by rw [hc]; simp
                have HCC : Hid (∀ (hj : a + k < K.size) (hi : p + k < K.size), K[a + k]'hj = K[p + k]'hi) := show ∀ hj, _ from by subst hk1 hk2; exact fun _ _ => hc
                clear hk1 hk2 hc
                go_wp2_with fail
                refine wp_region_classW (fun W => ∃ m, W = w.drewN m) (by kernel_rfl) (by kernel_rfl) ⟨m2 + 1, by rfl⟩ ?_
                iterate 19
                  refine WQ.gen (v := ?_) (by kernel_rfl) ?_ ?_
                  rotate_left
                  · rintro W ⟨m9, rfl⟩
                    go_simp
                    try with_reducible rfl
                  refine WQ.eq (a' := ?_) ?_ ?_
                  rotate_left
                  · try simp only [Act.put, List.setIfInBounds_toArray, List.set_cons_zero, List.set_cons_succ]
                    exact rfl
                refine WQ.nil ?_
                rintro w2 ⟨m3, rfl⟩
                go_wp2_with fail
                go_roundg (gk - 1)
                case measure => omega
                case rel => exact ⟨k + 1, m3, by omega, by go_num, rfl, show ∀ j, _ from fun j hj hi hjn => (Nat.lt_succ_iff_lt_or_eq.1 hjn).elim (HJ.out j hj hi) (fun h => by subst h; exact HCC.out hj hi)⟩
              · have d3 : (((K[k1]'h1s).toNat : Int) == ((K[k2]'h2s).toNat : Int)) = false := by
                  rw [beq_eq_false_iff_ne]
                  intro h
                  exact hc (UInt8.toNat_inj.1 (by omega))
                have HF : Hid (M = k) := show _ = _ from by rw [HM.out]; subst hk1 hk2; exact mch_is (by omega) (by omega) (by omega) HJ.out (.inr (.inr ⟨h2s, h1s, hc⟩))
                clear hk1 hk2 hc
                go_wp2_with fail
                refine wp_region_classW (fun W => ∃ m, W = w.drewN m) (by kernel_rfl) (by kernel_rfl) ⟨m2 + 1, by rfl⟩ ?_
                iterate 19
                  refine WQ.gen (v := ?_) (by kernel_rfl) ?_ ?_
                  rotate_left
                  · rintro W ⟨m9, rfl⟩
                    go_simp
                    try with_reducible rfl
                  refine WQ.eq (a' := ?_) ?_ ?_
                  rotate_left
                  · try simp only [Act.put, List.setIfInBounds_toArray, List.set_cons_zero, List.set_cons_succ]
                    exact rfl
                refine WQ.nil ?_
                rintro w2 ⟨m3, rfl⟩
                go_wp2_with fail
                go_meet
                case rel => exact ⟨by rw [HF.out], m3, rfl⟩
            · have d2 : decide ((k : Int) < mo) = false := decide_eq_false (by omega)
              have d2' : decide (k < mo) = false := decide_eq_false hlm
              have HF : Hid (M = k) := show _ = _ from by rw [HM.out]; exact mch_is (by omega) (by omega) (by omega) HJ.out (by have := HMO.out; by_cases h : k = 130; exact .inl h; exact .inr (.inl (by omega)))
              clear hk1 hk2
              go_wp2_with fail
              refine wp_region_classW (fun W => ∃ m, W = w.drewN m) (by kernel_rfl) (by kernel_rfl) ⟨m2 + 1, by rfl⟩ ?_
              iterate 4
                refine WQ.gen (v := ?_) (by kernel_rfl) ?_ ?_
                rotate_left
                · rintro W ⟨m9, rfl⟩
                  go_simp
                  try with_reducible rfl
                refine WQ.eq (a' := ?_) ?_ ?_
                rotate_left
                · try simp only [Act.put, List.setIfInBounds_toArray, List.set_cons_zero, List.set_cons_succ]
                  exact rfl
              refine WQ.skip (by kernel_rfl) ?_
              refine WQ.eq (a' := ?_) ?_ ?_
              rotate_left
              · try simp only [Act.put, List.setIfInBounds_toArray, List.set_cons_zero, List.set_cons_succ]
                exact rfl
              refine WQ.skip (by kernel_rfl) ?_
              refine WQ.eq (a' := ?_) ?_ ?_
              rotate_left
              · try simp only [Act.put, List.setIfInBounds_toArray, List.set_cons_zero, List.set_cons_succ]
                exact rfl
              refine WQ.skip (by kernel_rfl) ?_
              refine WQ.eq (a' := ?_) ?_ ?_
              rotate_left
              · try simp only [Act.put, List.setIfInBounds_toArray, List.set_cons_zero, List.set_cons_succ]
                exact rfl
              refine WQ.skip (by kernel_rfl) ?_
              refine WQ.eq (a' := ?_) ?_ ?_
              rotate_left
              · try simp only [Act.put, List.setIfInBounds_toArray, List.set_cons_zero, List.set_cons_succ]
                exact rfl
              refine WQ.skip (by kernel_rfl) ?_
              refine WQ.eq (a' := ?_) ?_ ?_
              rotate_left
              · try simp only [Act.put, List.setIfInBounds_toArray, List.set_cons_zero, List.set_cons_succ]
                exact rfl
              refine WQ.skip (by kernel_rfl) ?_
              refine WQ.eq (a' := ?_) ?_ ?_
              rotate_left
              · try simp only [Act.put, List.setIfInBounds_toArray, List.set_cons_zero, List.set_cons_succ]
                exact rfl
              refine WQ.skip (by kernel_rfl) ?_
              refine WQ.eq (a' := ?_) ?_ ?_
              rotate_left
              · try simp only [Act.put, List.setIfInBounds_toArray, List.set_cons_zero, List.set_cons_succ]
                exact rfl
              refine WQ.skip (by kernel_rfl) ?_
              refine WQ.eq (a' := ?_) ?_ ?_
              rotate_left
              · try simp only [Act.put, List.setIfInBounds_toArray, List.set_cons_zero, List.set_cons_succ]
                exact rfl
              refine WQ.skip (by kernel_rfl) ?_
              refine WQ.eq (a' := ?_) ?_ ?_
              rotate_left
              · try simp only [Act.put, List.setIfInBounds_toArray, List.set_cons_zero, List.set_cons_succ]
                exact rfl
              refine WQ.skip (by kernel_rfl) ?_
              refine WQ.eq (a' := ?_) ?_ ?_
              rotate_left
              · try simp only [Act.put, List.setIfInBounds_toArray, List.set_cons_zero, List.set_cons_succ]
                exact rfl
              refine WQ.skip (by kernel_rfl) ?_
              refine WQ.eq (a' := ?_) ?_ ?_
              rotate_left
              · try simp only [Act.put, List.setIfInBounds_toArray, List.set_cons_zero, List.set_cons_succ]
                exact rfl
              refine WQ.skip (by kernel_rfl) ?_
              refine WQ.eq (a' := ?_) ?_ ?_
              rotate_left
              · try simp only [Act.put, List.setIfInBounds_toArray, List.set_cons_zero, List.set_cons_succ]
                exact rfl
              refine WQ.skip (by kernel_rfl) ?_
              refine WQ.eq (a' := ?_) ?_ ?_
              rotate_left
              · try simp only [Act.put, List.setIfInBounds_toArray, List.set_cons_zero, List.set_cons_succ]
                exact rfl
              refine WQ.skip (by kernel_rfl) ?_
              refine WQ.eq (a' := ?_) ?_ ?_
              rotate_left
              · try simp only [Act.put, List.setIfInBounds_toArray, List.set_cons_zero, List.set_cons_succ]
                exact rfl
              iterate 1
                refine WQ.gen (v := ?_) (by kernel_rfl) ?_ ?_
                rotate_left
                · rintro W ⟨m9, rfl⟩
                  go_simp
                  try with_reducible rfl
                refine WQ.eq (a' := ?_) ?_ ?_
                rotate_left
                · try simp only [Act.put, List.setIfInBounds_toArray, List.set_cons_zero, List.set_cons_succ]
                  exact rfl
              refine WQ.nil ?_
              rintro w2 ⟨m3, rfl⟩
              go_wp2_with fail
              go_meet
              case rel => exact ⟨by rw [HF.out], m3, rfl⟩
        case rest =>
          obtain ⟨rfl, m5, rfl⟩ := hcut
          obtain ⟨jm, hjm⟩ : ∃ x : Int, x = (j : Int) - 1 := ⟨_, rfl⟩
          have e2 : IntKind.i64.wrap ((j : Int) - 1) = jm := by rw [IntWalk.i64_in _ (by omega)]; omega
          have hj1 : jm ≤ (j : Int) - 1 := by omega
          have hj2 : (j : Int) - 1 ≤ jm := by omega
          have hj3 : j ≤ ln := by omega
          have hM130 : M ≤ 130 := by omega
          have hjk : j < j + 1 := by omega
          have HJM : Hid (muLong { tmps := #[], defers := [] } = 1) := show _ = _ from rfl
          clear hjm
          by_cases hnM : n < M
          · have d4 : decide ((n : Int) < M) = true := decide_eq_true (by omega)
            have d4' : decide (n < M) = true := decide_eq_true hnM
            by_cases hMo : M = mo
            · have d5 : ((M : Int) == mo) = true := by rw [beq_iff_eq]; omega
              have HF : Hid (R = (M, bk)) := show _ = _ from by rw [← HEQ.out, HLN.out, if_pos hnM, if_pos hMo]
              clear hMo
              go_wp2_with fail
              go_quiet (fail)
              go_wp2_with fail
              simp only [Exit.jump]
              go_ret2
              exact ⟨by rw [HF.out]; rfl, _, rfl⟩
            · have d5 : ((M : Int) == mo) = false := by rw [beq_eq_false_iff_ne]; omega
              have HF : Hid (lng K a zs j M bk = R) := show _ = _ from by rw [← HEQ.out, HLN.out, if_pos hnM, if_neg hMo]
              clear hMo
              go_wp2_with fail
              go_quiet (fail)
              go_wp2_with fail
              apply wp_goto
              refine ⟨rfl, ⟨j, _, M, bk, jm, u6, u7, ?_, rfl, hj3, hj1, hj2, hM130, HF, ?_, ?_⟩, ?_⟩
              rotate_left 2
              · rfl
              · show (jm + 1).toNat < j + 1
                omega
              · rfl
          · have d4 : decide ((n : Int) < M) = false := decide_eq_false (by omega)
            have d4' : decide (n < M) = false := decide_eq_false hnM
            by_cases hMo : n = mo
            · have d5 : ((n : Int) == mo) = true := by rw [beq_iff_eq]; omega
              have HF : Hid (R = (n, b)) := show _ = _ from by rw [← HEQ.out, HLN.out, if_neg hnM, if_pos hMo]
              clear hMo
              go_wp2_with fail
              simp only [Exit.jump]
              go_ret2
              exact ⟨by rw [HF.out]; rfl, _, rfl⟩
            · have d5 : ((n : Int) == mo) = false := by rw [beq_eq_false_iff_ne]; omega
              have HF : Hid (lng K a zs j n b = R) := show _ = _ from by rw [← HEQ.out, HLN.out, if_neg hnM, if_neg hMo]
              clear hMo
              go_wp2_with fail
              apply wp_goto
              refine ⟨rfl, ⟨j, _, n, b, jm, u6, u7, ?_, rfl, hj3, hj1, hj2, hn, HF, ?_, ?_⟩, ?_⟩
              rotate_left 2
              · rfl
              · show (jm + 1).toNat < j + 1
                omega
              · rfl
  · intro HP
    by_cases hr : (130 : Int) ≤ rs
    · clear hrs
      go_wp2_with fail
      apply wp_label
      rename_i hk
      refine hk _ _ (HP _ w ⟨ln, 0, 0, 0, il, .int .i64 0, .int .i64 0, ?_, rfl, Nat.le_refl _, hil1, hil2, by omega, HR0, ?_, ?_⟩)
      rotate_left 2
      · rw [← HMM.out hr]
        rfl
      · rfl
    · clear hrs
      go_wp2_with fail
      apply wp_label
      rename_i hk
      refine hk _ _ (HP _ w ⟨ln, 0, 0, 0, il, .int .i64 0, .int .i64 0, ?_, rfl, Nat.le_refl _, hil1, hil2, by omega, HR0, ?_, ?_⟩)
      rotate_left 2
      · rw [← HMM2.out hr]
        rfl
      · rfl
end Go.Proofs.Ytbelofikknfoaaa
