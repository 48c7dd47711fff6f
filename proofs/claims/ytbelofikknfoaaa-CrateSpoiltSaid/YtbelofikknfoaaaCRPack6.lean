/- cavalcaderef06.Pack: what the call does. -/
import Derived.Test.YtbelofikknfoaaaCThree
import Derived.Deep.CutBlock
import Derived.Deep.DeepCutAuto
namespace Go.Proofs.Ytbelofikknfoaaa
open Go.RowKit
set_option maxHeartbeats 4000000
set_option maxRecDepth 4000
theorem wpList_appZ {ops : Array Oper} {rest : List Oper} {o : Oper} {a : Act} {w : World} {Q : Exit → Act → World → Prop} (hgd : o.guard = none) (sl x : Operand) (tx : TypeId) (ho : o.op = .call { callee := .builtin .append, args := #[sl, x], argTypes := #[34, tx] }) (B : Nat) (v : Value) (xs : List UInt8) (hv : a.eval sl = v) (h : OwnZ B v xs w)
    (xv : Value) (hx : a.eval x = xv) (ys : List UInt8) (hs : Src Try.prog 1 tx xv ys.length (u8s ys) w) (hy : 0 < ys.length) (hl : xs.length + ys.length ≤ 140737488355328)
    (hK : ∀ v' w', Hid (OwnZ B v' (xs ++ ys) w') → Hid (Below B w w') → wpList Try.prog ops Q rest (a.put o.dst v') w') : wpList Try.prog ops Q (o :: rest) a w :=
  wpList_plain hgd fun _ hK' => wp_appZ sl x tx ho B v xs hv h xv hx ys hs hy hl fun v' w' h2 h3 => hK' _ _ (hK v' w' (.inr h2) h3)
theorem OwnZ.sh {B : Nat} {v : Value} {xs : List UInt8} {w : World} (h : OwnZ B v xs w) : ∃ q n c, v = .slice q n c := by
  obtain ⟨q, c, h⟩ := h.shape
  exact ⟨q, _, c, h⟩
theorem rpack6_any (s : ByteArray) (w : World) (hs : s.size ≤ 65536) :
    Calls Try.prog 27 #[.string s] w fun e w' => e = .returned (.string (bstr (rpk s.data.toList))) ∧ Below w.heap.size w w' := by
  obtain ⟨L, hL⟩ : ∃ L, L = s.data.toList := ⟨_, rfl⟩
  have HL := Lib.hid hL
  have HLL : Hid (L.length = s.size) := show _ = _ from by rw [hL]; rfl
  have HTH : Hid (∀ a (h : a < s.size), three (L.drop a) = decide (3 ≤ sameN s a)) := show ∀ a, _ from fun a h => by rw [hL]; exact three_same h
  have HRUN : Hid (∀ a (h : a < s.size), 3 ≤ sameN s a → rpk (L.drop a) = UInt8.ofNat (125 + sameN s a) :: s[a]'h :: rpk (L.drop (a + sameN s a))) := show ∀ a, _ from fun a h h3 => by rw [hL]; exact rpk_run_at h h3
  have HTHR : Hid (∀ (a : Nat) (W : World), a ≤ s.size → Calls Try.prog 34 #[.string s, .int .i64 a] W fun e w' => e = .returned (.bool (three (L.drop a))) ∧ Below W.heap.size W w') := show ∀ a W, _ from fun a W h => by rw [hL]; exact three6_any s a W (by omega) h
  rw [← hL]
  have HO0 : Hid (OwnZ w.heap.size (.slice (some ⟨w.heap.size, 0, none⟩) 0 0) [] (w.alloc (.cells #[] 5))) := show _ ∨ _ from .inr ⟨w.heap.size, 0, [], (0, 0), rfl, Nat.le_refl _, heap_alloc_new w _, rfl, by decide, .inl rfl⟩
  have HB0 := Lib.hid (bw_alloc (Below.refl w.heap.size w) (.cells #[] 5))
  clear hL
  go_enter Try.func27, Try.ntmps27
  go_wp2_with fail
  generalize w.alloc (.cells #[] 5) = w0 at *
  go_loopw [3, 4, 5] (fun b at_ n wr => ∃ (a : Nat) (q : Option Addr) (nn c : Nat) (O : List UInt8), a ≤ s.size ∧ at_ = .int .i64 a ∧ b = .slice q nn c ∧ Hid (O ++ rpk (L.drop a) = rpk L) ∧ Hid (OwnZ w.heap.size (.slice q nn c) O wr) ∧ Hid (Below w.heap.size w wr)) (fun _ at_ _ _ => s.size - (intOf at_).toNat)
  case atStart => exact ⟨0, _, _, _, [], by omega, rfl, rfl, show _ = _ from rfl, HO0, HB0⟩
  case round =>
    obtain ⟨a, q, nn, c, O, ha, rfl, rfl, HEQ, HO, HB⟩ := hrel
    have hOl : O.length ≤ 4294967296 := by
      have h1 := congrArg List.length HEQ.out
      have h2 := rpk_length L
      rw [List.length_append] at h1
      have := HLL.out
      omega
    by_cases hlt : a < s.size
    · have f0 : (0 : Int) ≤ a := by omega
      have f1 : (a : Int) < s.size := by omega
      go_wp2_with fail
      refine (HTHR.out a _ ha).mono ?_
      rintro e w1 ⟨rfl, hb1⟩
      have HO1 := Lib.hid (HO.out.below hb1 (Nat.le_refl _))
      have HB1 := Lib.hid (bw_call HB.out hb1)
      have hN := sameN_le hlt
      have HTA := Lib.hid (HTH.out a hlt)
      clear hb1
      by_cases h3 : three (L.drop a) = true
      · rw [h3]
        have H0 : Hid (∀ j (hj : a + j < s.size), j < 0 → s[a + j]'hj = s[a]'hlt) := show ∀ j, _ from fun j hj hn => absurd hn (by omega)
        have HN3 : Hid (3 ≤ sameN s a) := show _ ≤ _ from of_decide_eq_true (by rw [← HTA.out, h3])
        clear h3
        go_upto_block 2 with fail
        go_cut [5] (fun n wx => n = .int .i64 (sameN s a) ∧ Hid (Below w1.heap.size w1 wx))
        case first =>
          go_wp2_with fail
          go_loopg [5] 130 (fun gk i wr => ∃ n : Nat, n + gk = 130 ∧ a + n ≤ s.size ∧ i = .int .i64 n ∧ Hid (∀ j (hj : a + j < s.size), j < n → s[a + j]'hj = s[a]'hlt) ∧ Hid (Below w1.heap.size w1 wr))
          case atStart => exact ⟨0, by omega, by omega, rfl, H0, Below.refl _ _⟩
          case round =>
            obtain ⟨n, hn, hle, rfl, HJ, HBn⟩ := hrel
            obtain ⟨k, hk⟩ : ∃ k, k = a + n := ⟨_, rfl⟩
            have e1 : IntKind.i64.wrap ((a : Int) + n) = (k : Int) := by rw [IntWalk.i64_in _ (by omega)]; omega
            have f2 : (0 : Int) ≤ (k : Int) := by omega
            have HK := Lib.hid hk
            by_cases hlk : k < s.size
            · have d1 : decide ((k : Int) < s.size) = true := decide_eq_true (by omega)
              have f3 : (k : Int) < s.size := by omega
              by_cases h130 : n < 130
              · have d0 : decide ((n : Int) < 130) = true := decide_eq_true (by omega)
                by_cases hc : s[k]'hlk = s[a]'hlt
                · have d2 : (((s[k]'hlk).toNat : Int) == ((s[a]'hlt).toNat : Int)) = true := by rw [hc]; simp
                  have HC : Hid (∀ hj : a + n < s.size, s[a + n]'hj = s[a]'hlt) := show ∀ hj, _ from by subst hk; exact fun _ => hc
                  clear hk hc
                  go_wp2_with fail
                  refine wp_region_classW (fun W => Below w1.heap.size w1 W) (by kernel_rfl) (by kernel_rfl) HBn.out.drew ?_
                  refine WQ.gen (v := ?_) (by kernel_rfl) ?_ ?_
                  rotate_left
                  · intro W hC
                    go_simp
                    try with_reducible rfl
                  refine WQ.eq (a' := ?_) ?_ ?_
                  rotate_left
                  · try simp only [Act.put, List.setIfInBounds_toArray, List.set_cons_zero, List.set_cons_succ]
                    exact rfl
                  refine WQ.gen (v := ?_) (by kernel_rfl) ?_ ?_
                  rotate_left
                  · intro W hC
                    go_simp
                    try with_reducible rfl
                  refine WQ.eq (a' := ?_) ?_ ?_
                  rotate_left
                  · try simp only [Act.put, List.setIfInBounds_toArray, List.set_cons_zero, List.set_cons_succ]
                    exact rfl
                  refine WQ.gen (v := ?_) (by kernel_rfl) ?_ ?_
                  rotate_left
                  · intro W hC
                    go_simp
                    try with_reducible rfl
                  refine WQ.eq (a' := ?_) ?_ ?_
                  rotate_left
                  · try simp only [Act.put, List.setIfInBounds_toArray, List.set_cons_zero, List.set_cons_succ]
                    exact rfl
                  refine WQ.gen (v := ?_) (by kernel_rfl) ?_ ?_
                  rotate_left
                  · intro W hC
                    go_simp
                    try with_reducible rfl
                  refine WQ.eq (a' := ?_) ?_ ?_
                  rotate_left
                  · try simp only [Act.put, List.setIfInBounds_toArray, List.set_cons_zero, List.set_cons_succ]
                    exact rfl
                  refine WQ.gen (v := ?_) (by kernel_rfl) ?_ ?_
                  rotate_left
                  · intro W hC
                    go_simp
                    try with_reducible rfl
                  refine WQ.eq (a' := ?_) ?_ ?_
                  rotate_left
                  · try simp only [Act.put, List.setIfInBounds_toArray, List.set_cons_zero, List.set_cons_succ]
                    exact rfl
                  refine WQ.gen (v := ?_) (by kernel_rfl) ?_ ?_
                  rotate_left
                  · intro W hC
                    go_simp
                    try with_reducible rfl
                  refine WQ.eq (a' := ?_) ?_ ?_
                  rotate_left
                  · try simp only [Act.put, List.setIfInBounds_toArray, List.set_cons_zero, List.set_cons_succ]
                    exact rfl
                  refine WQ.gen (v := ?_) (by kernel_rfl) ?_ ?_
                  rotate_left
                  · intro W hC
                    go_simp
                    try with_reducible rfl
                  refine WQ.eq (a' := ?_) ?_ ?_
                  rotate_left
                  · try simp only [Act.put, List.setIfInBounds_toArray, List.set_cons_zero, List.set_cons_succ]
                    exact rfl
                  refine WQ.gen (v := ?_) (by kernel_rfl) ?_ ?_
                  rotate_left
                  · intro W hC
                    go_simp
                    try with_reducible rfl
                  refine WQ.eq (a' := ?_) ?_ ?_
                  rotate_left
                  · try simp only [Act.put, List.setIfInBounds_toArray, List.set_cons_zero, List.set_cons_succ]
                    exact rfl
                  refine WQ.gen (v := ?_) (by kernel_rfl) ?_ ?_
                  rotate_left
                  · intro W hC
                    go_simp
                    try with_reducible rfl
                  refine WQ.eq (a' := ?_) ?_ ?_
                  rotate_left
                  · try simp only [Act.put, List.setIfInBounds_toArray, List.set_cons_zero, List.set_cons_succ]
                    exact rfl
                  refine WQ.gen (v := ?_) (by kernel_rfl) ?_ ?_
                  rotate_left
                  · intro W hC
                    go_simp
                    try with_reducible rfl
                  refine WQ.eq (a' := ?_) ?_ ?_
                  rotate_left
                  · try simp only [Act.put, List.setIfInBounds_toArray, List.set_cons_zero, List.set_cons_succ]
                    exact rfl
                  refine WQ.gen (v := ?_) (by kernel_rfl) ?_ ?_
                  rotate_left
                  · intro W hC
                    go_simp
                    try with_reducible rfl
                  refine WQ.eq (a' := ?_) ?_ ?_
                  rotate_left
                  · try simp only [Act.put, List.setIfInBounds_toArray, List.set_cons_zero, List.set_cons_succ]
                    exact rfl
                  refine WQ.gen (v := ?_) (by kernel_rfl) ?_ ?_
                  rotate_left
                  · intro W hC
                    go_simp
                    try with_reducible rfl
                  refine WQ.eq (a' := ?_) ?_ ?_
                  rotate_left
                  · try simp only [Act.put, List.setIfInBounds_toArray, List.set_cons_zero, List.set_cons_succ]
                    exact rfl
                  refine WQ.gen (v := ?_) (by kernel_rfl) ?_ ?_
                  rotate_left
                  · intro W hC
                    go_simp
                    try with_reducible rfl
                  refine WQ.eq (a' := ?_) ?_ ?_
                  rotate_left
                  · try simp only [Act.put, List.setIfInBounds_toArray, List.set_cons_zero, List.set_cons_succ]
                    exact rfl
                  refine WQ.gen (v := ?_) (by kernel_rfl) ?_ ?_
                  rotate_left
                  · intro W hC
                    go_simp
                    try with_reducible rfl
                  refine WQ.eq (a' := ?_) ?_ ?_
                  rotate_left
                  · try simp only [Act.put, List.setIfInBounds_toArray, List.set_cons_zero, List.set_cons_succ]
                    exact rfl
                  refine WQ.gen (v := ?_) (by kernel_rfl) ?_ ?_
                  rotate_left
                  · intro W hC
                    go_simp
                    try with_reducible rfl
                  refine WQ.eq (a' := ?_) ?_ ?_
                  rotate_left
                  · try simp only [Act.put, List.setIfInBounds_toArray, List.set_cons_zero, List.set_cons_succ]
                    exact rfl
                  refine WQ.gen (v := ?_) (by kernel_rfl) ?_ ?_
                  rotate_left
                  · intro W hC
                    go_simp
                    try with_reducible rfl
                  refine WQ.eq (a' := ?_) ?_ ?_
                  rotate_left
                  · try simp only [Act.put, List.setIfInBounds_toArray, List.set_cons_zero, List.set_cons_succ]
                    exact rfl
                  refine WQ.gen (v := ?_) (by kernel_rfl) ?_ ?_
                  rotate_left
                  · intro W hC
                    go_simp
                    try with_reducible rfl
                  refine WQ.eq (a' := ?_) ?_ ?_
                  rotate_left
                  · try simp only [Act.put, List.setIfInBounds_toArray, List.set_cons_zero, List.set_cons_succ]
                    exact rfl
                  refine WQ.gen (v := ?_) (by kernel_rfl) ?_ ?_
                  rotate_left
                  · intro W hC
                    go_simp
                    try with_reducible rfl
                  refine WQ.eq (a' := ?_) ?_ ?_
                  rotate_left
                  · try simp only [Act.put, List.setIfInBounds_toArray, List.set_cons_zero, List.set_cons_succ]
                    exact rfl
                  refine WQ.gen (v := ?_) (by kernel_rfl) ?_ ?_
                  rotate_left
                  · intro W hC
                    go_simp
                    try with_reducible rfl
                  refine WQ.eq (a' := ?_) ?_ ?_
                  rotate_left
                  · try simp only [Act.put, List.setIfInBounds_toArray, List.set_cons_zero, List.set_cons_succ]
                    exact rfl
                  refine WQ.gen (v := ?_) (by kernel_rfl) ?_ ?_
                  rotate_left
                  · intro W hC
                    go_simp
                    try with_reducible rfl
                  refine WQ.eq (a' := ?_) ?_ ?_
                  rotate_left
                  · try simp only [Act.put, List.setIfInBounds_toArray, List.set_cons_zero, List.set_cons_succ]
                    exact rfl
                  refine WQ.gen (v := ?_) (by kernel_rfl) ?_ ?_
                  rotate_left
                  · intro W hC
                    go_simp
                    try with_reducible rfl
                  refine WQ.eq (a' := ?_) ?_ ?_
                  rotate_left
                  · try simp only [Act.put, List.setIfInBounds_toArray, List.set_cons_zero, List.set_cons_succ]
                    exact rfl
                  refine WQ.nil ?_
                  intro w2 hB2
                  have HB2 := Lib.hid hB2
                  clear hB2
                  go_wp2_with fail
                  go_roundg (gk - 1)
                  case measure => omega
                  case rel => exact ⟨n + 1, by omega, by have := HK.out; omega, by go_num, show ∀ j, _ from fun j hj hjn => (Nat.lt_succ_iff_lt_or_eq.1 hjn).elim (HJ.out j hj) (fun h => by subst h; exact HC.out hj), HB2⟩
                · have d2 : (((s[k]'hlk).toNat : Int) == ((s[a]'hlt).toNat : Int)) = false := by
                    rw [beq_eq_false_iff_ne]
                    intro h
                    exact hc (UInt8.toNat_inj.1 (by omega))
                  have HF : Hid (sameN s a = n) := show _ = _ from by subst hk; exact sameN_is hlt (by omega) hle HJ.out (.inr (.inr ⟨hlk, hc⟩))
                  clear hc hk
                  go_wp2_with fail
                  refine wp_region_classW (fun W => Below w1.heap.size w1 W) (by kernel_rfl) (by kernel_rfl) HBn.out.drew ?_
                  refine WQ.gen (v := ?_) (by kernel_rfl) ?_ ?_
                  rotate_left
                  · intro W hC
                    go_simp
                    try with_reducible rfl
                  refine WQ.eq (a' := ?_) ?_ ?_
                  rotate_left
                  · try simp only [Act.put, List.setIfInBounds_toArray, List.set_cons_zero, List.set_cons_succ]
                    exact rfl
                  refine WQ.gen (v := ?_) (by kernel_rfl) ?_ ?_
                  rotate_left
                  · intro W hC
                    go_simp
                    try with_reducible rfl
                  refine WQ.eq (a' := ?_) ?_ ?_
                  rotate_left
                  · try simp only [Act.put, List.setIfInBounds_toArray, List.set_cons_zero, List.set_cons_succ]
                    exact rfl
                  refine WQ.gen (v := ?_) (by kernel_rfl) ?_ ?_
                  rotate_left
                  · intro W hC
                    go_simp
                    try with_reducible rfl
                  refine WQ.eq (a' := ?_) ?_ ?_
                  rotate_left
                  · try simp only [Act.put, List.setIfInBounds_toArray, List.set_cons_zero, List.set_cons_succ]
                    exact rfl
                  refine WQ.gen (v := ?_) (by kernel_rfl) ?_ ?_
                  rotate_left
                  · intro W hC
                    go_simp
                    try with_reducible rfl
                  refine WQ.eq (a' := ?_) ?_ ?_
                  rotate_left
                  · try simp only [Act.put, List.setIfInBounds_toArray, List.set_cons_zero, List.set_cons_succ]
                    exact rfl
                  refine WQ.gen (v := ?_) (by kernel_rfl) ?_ ?_
                  rotate_left
                  · intro W hC
                    go_simp
                    try with_reducible rfl
                  refine WQ.eq (a' := ?_) ?_ ?_
                  rotate_left
                  · try simp only [Act.put, List.setIfInBounds_toArray, List.set_cons_zero, List.set_cons_succ]
                    exact rfl
                  refine WQ.gen (v := ?_) (by kernel_rfl) ?_ ?_
                  rotate_left
                  · intro W hC
                    go_simp
                    try with_reducible rfl
                  refine WQ.eq (a' := ?_) ?_ ?_
                  rotate_left
                  · try simp only [Act.put, List.setIfInBounds_toArray, List.set_cons_zero, List.set_cons_succ]
                    exact rfl
                  refine WQ.gen (v := ?_) (by kernel_rfl) ?_ ?_
                  rotate_left
                  · intro W hC
                    go_simp
                    try with_reducible rfl
                  refine WQ.eq (a' := ?_) ?_ ?_
                  rotate_left
                  · try simp only [Act.put, List.setIfInBounds_toArray, List.set_cons_zero, List.set_cons_succ]
                    exact rfl
                  refine WQ.gen (v := ?_) (by kernel_rfl) ?_ ?_
                  rotate_left
                  · intro W hC
                    go_simp
                    try with_reducible rfl
                  refine WQ.eq (a' := ?_) ?_ ?_
                  rotate_left
                  · try simp only [Act.put, List.setIfInBounds_toArray, List.set_cons_zero, List.set_cons_succ]
                    exact rfl
                  refine WQ.gen (v := ?_) (by kernel_rfl) ?_ ?_
                  rotate_left
                  · intro W hC
                    go_simp
                    try with_reducible rfl
                  refine WQ.eq (a' := ?_) ?_ ?_
                  rotate_left
                  · try simp only [Act.put, List.setIfInBounds_toArray, List.set_cons_zero, List.set_cons_succ]
                    exact rfl
                  refine WQ.gen (v := ?_) (by kernel_rfl) ?_ ?_
                  rotate_left
                  · intro W hC
                    go_simp
                    try with_reducible rfl
                  refine WQ.eq (a' := ?_) ?_ ?_
                  rotate_left
                  · try simp only [Act.put, List.setIfInBounds_toArray, List.set_cons_zero, List.set_cons_succ]
                    exact rfl
                  refine WQ.gen (v := ?_) (by kernel_rfl) ?_ ?_
                  rotate_left
                  · intro W hC
                    go_simp
                    try with_reducible rfl
                  refine WQ.eq (a' := ?_) ?_ ?_
                  rotate_left
                  · try simp only [Act.put, List.setIfInBounds_toArray, List.set_cons_zero, List.set_cons_succ]
                    exact rfl
                  refine WQ.gen (v := ?_) (by kernel_rfl) ?_ ?_
                  rotate_left
                  · intro W hC
                    go_simp
                    try with_reducible rfl
                  refine WQ.eq (a' := ?_) ?_ ?_
                  rotate_left
                  · try simp only [Act.put, List.setIfInBounds_toArray, List.set_cons_zero, List.set_cons_succ]
                    exact rfl
                  refine WQ.gen (v := ?_) (by kernel_rfl) ?_ ?_
                  rotate_left
                  · intro W hC
                    go_simp
                    try with_reducible rfl
                  refine WQ.eq (a' := ?_) ?_ ?_
                  rotate_left
                  · try simp only [Act.put, List.setIfInBounds_toArray, List.set_cons_zero, List.set_cons_succ]
                    exact rfl
                  refine WQ.gen (v := ?_) (by kernel_rfl) ?_ ?_
                  rotate_left
                  · intro W hC
                    go_simp
                    try with_reducible rfl
                  refine WQ.eq (a' := ?_) ?_ ?_
                  rotate_left
                  · try simp only [Act.put, List.setIfInBounds_toArray, List.set_cons_zero, List.set_cons_succ]
                    exact rfl
                  refine WQ.gen (v := ?_) (by kernel_rfl) ?_ ?_
                  rotate_left
                  · intro W hC
                    go_simp
                    try with_reducible rfl
                  refine WQ.eq (a' := ?_) ?_ ?_
                  rotate_left
                  · try simp only [Act.put, List.setIfInBounds_toArray, List.set_cons_zero, List.set_cons_succ]
                    exact rfl
                  refine WQ.gen (v := ?_) (by kernel_rfl) ?_ ?_
                  rotate_left
                  · intro W hC
                    go_simp
                    try with_reducible rfl
                  refine WQ.eq (a' := ?_) ?_ ?_
                  rotate_left
                  · try simp only [Act.put, List.setIfInBounds_toArray, List.set_cons_zero, List.set_cons_succ]
                    exact rfl
                  refine WQ.gen (v := ?_) (by kernel_rfl) ?_ ?_
                  rotate_left
                  · intro W hC
                    go_simp
                    try with_reducible rfl
                  refine WQ.eq (a' := ?_) ?_ ?_
                  rotate_left
                  · try simp only [Act.put, List.setIfInBounds_toArray, List.set_cons_zero, List.set_cons_succ]
                    exact rfl
                  refine WQ.gen (v := ?_) (by kernel_rfl) ?_ ?_
                  rotate_left
                  · intro W hC
                    go_simp
                    try with_reducible rfl
                  refine WQ.eq (a' := ?_) ?_ ?_
                  rotate_left
                  · try simp only [Act.put, List.setIfInBounds_toArray, List.set_cons_zero, List.set_cons_succ]
                    exact rfl
                  refine WQ.gen (v := ?_) (by kernel_rfl) ?_ ?_
                  rotate_left
                  · intro W hC
                    go_simp
                    try with_reducible rfl
                  refine WQ.eq (a' := ?_) ?_ ?_
                  rotate_left
                  · try simp only [Act.put, List.setIfInBounds_toArray, List.set_cons_zero, List.set_cons_succ]
                    exact rfl
                  refine WQ.gen (v := ?_) (by kernel_rfl) ?_ ?_
                  rotate_left
                  · intro W hC
                    go_simp
                    try with_reducible rfl
                  refine WQ.eq (a' := ?_) ?_ ?_
                  rotate_left
                  · try simp only [Act.put, List.setIfInBounds_toArray, List.set_cons_zero, List.set_cons_succ]
                    exact rfl
                  refine WQ.gen (v := ?_) (by kernel_rfl) ?_ ?_
                  rotate_left
                  · intro W hC
                    go_simp
                    try with_reducible rfl
                  refine WQ.eq (a' := ?_) ?_ ?_
                  rotate_left
                  · try simp only [Act.put, List.setIfInBounds_toArray, List.set_cons_zero, List.set_cons_succ]
                    exact rfl
                  refine WQ.nil ?_
                  intro w2 hB2
                  have HB2 := Lib.hid hB2
                  clear hB2
                  go_wp2_with fail
                  go_meet
                  case rel => exact ⟨by rw [HF.out], HB2⟩
              · have d0 : decide ((n : Int) < 130) = false := decide_eq_false (by omega)
                have HF : Hid (sameN s a = n) := show _ = _ from sameN_is hlt (by omega) hle HJ.out (.inl (by omega))
                clear hk
                go_wp2_with fail
                refine wp_region_classW (fun W => Below w1.heap.size w1 W) (by kernel_rfl) (by kernel_rfl) HBn.out.drew ?_
                refine WQ.gen (v := ?_) (by kernel_rfl) ?_ ?_
                rotate_left
                · intro W hC
                  go_simp
                  try with_reducible rfl
                refine WQ.eq (a' := ?_) ?_ ?_
                rotate_left
                · try simp only [Act.put, List.setIfInBounds_toArray, List.set_cons_zero, List.set_cons_succ]
                  exact rfl
                refine WQ.gen (v := ?_) (by kernel_rfl) ?_ ?_
                rotate_left
                · intro W hC
                  go_simp
                  try with_reducible rfl
                refine WQ.eq (a' := ?_) ?_ ?_
                rotate_left
                · try simp only [Act.put, List.setIfInBounds_toArray, List.set_cons_zero, List.set_cons_succ]
                  exact rfl
                refine WQ.gen (v := ?_) (by kernel_rfl) ?_ ?_
                rotate_left
                · intro W hC
                  go_simp
                  try with_reducible rfl
                refine WQ.eq (a' := ?_) ?_ ?_
                rotate_left
                · try simp only [Act.put, List.setIfInBounds_toArray, List.set_cons_zero, List.set_cons_succ]
                  exact rfl
                refine WQ.gen (v := ?_) (by kernel_rfl) ?_ ?_
                rotate_left
                · intro W hC
                  go_simp
                  try with_reducible rfl
                refine WQ.eq (a' := ?_) ?_ ?_
                rotate_left
                · try simp only [Act.put, List.setIfInBounds_toArray, List.set_cons_zero, List.set_cons_succ]
                  exact rfl
                refine WQ.gen (v := ?_) (by kernel_rfl) ?_ ?_
                rotate_left
                · intro W hC
                  go_simp
                  try with_reducible rfl
                refine WQ.eq (a' := ?_) ?_ ?_
                rotate_left
                · try simp only [Act.put, List.setIfInBounds_toArray, List.set_cons_zero, List.set_cons_succ]
                  exact rfl
                refine WQ.gen (v := ?_) (by kernel_rfl) ?_ ?_
                rotate_left
                · intro W hC
                  go_simp
                  try with_reducible rfl
                refine WQ.eq (a' := ?_) ?_ ?_
                rotate_left
                · try simp only [Act.put, List.setIfInBounds_toArray, List.set_cons_zero, List.set_cons_succ]
                  exact rfl
                refine WQ.gen (v := ?_) (by kernel_rfl) ?_ ?_
                rotate_left
                · intro W hC
                  go_simp
                  try with_reducible rfl
                refine WQ.eq (a' := ?_) ?_ ?_
                rotate_left
                · try simp only [Act.put, List.setIfInBounds_toArray, List.set_cons_zero, List.set_cons_succ]
                  exact rfl
                refine WQ.gen (v := ?_) (by kernel_rfl) ?_ ?_
                rotate_left
                · intro W hC
                  go_simp
                  try with_reducible rfl
                refine WQ.eq (a' := ?_) ?_ ?_
                rotate_left
                · try simp only [Act.put, List.setIfInBounds_toArray, List.set_cons_zero, List.set_cons_succ]
                  exact rfl
                refine WQ.gen (v := ?_) (by kernel_rfl) ?_ ?_
                rotate_left
                · intro W hC
                  go_simp
                  try with_reducible rfl
                refine WQ.eq (a' := ?_) ?_ ?_
                rotate_left
                · try simp only [Act.put, List.setIfInBounds_toArray, List.set_cons_zero, List.set_cons_succ]
                  exact rfl
                refine WQ.gen (v := ?_) (by kernel_rfl) ?_ ?_
                rotate_left
                · intro W hC
                  go_simp
                  try with_reducible rfl
                refine WQ.eq (a' := ?_) ?_ ?_
                rotate_left
                · try simp only [Act.put, List.setIfInBounds_toArray, List.set_cons_zero, List.set_cons_succ]
                  exact rfl
                refine WQ.gen (v := ?_) (by kernel_rfl) ?_ ?_
                rotate_left
                · intro W hC
                  go_simp
                  try with_reducible rfl
                refine WQ.eq (a' := ?_) ?_ ?_
                rotate_left
                · try simp only [Act.put, List.setIfInBounds_toArray, List.set_cons_zero, List.set_cons_succ]
                  exact rfl
                refine WQ.skip (by kernel_rfl) ?_
                refine WQ.eq (a' := ?_) ?_ ?_
                rotate_left
                · try simp only [Act.put, List.setIfInBounds_toArray, List.set_cons_zero, List.set_cons_succ]
                  exact rfl
                refine WQ.skip (by kernel_rfl) ?_
                refine WQ.eq (a' := ?_) ?_ ?_
                rotate_left
                · try simp only [Act.put, List.setIfInBounds_toArray, List.set_cons_zero, List.set_cons_succ]
                  exact rfl
                refine WQ.skip (by kernel_rfl) ?_
                refine WQ.eq (a' := ?_) ?_ ?_
                rotate_left
                · try simp only [Act.put, List.setIfInBounds_toArray, List.set_cons_zero, List.set_cons_succ]
                  exact rfl
                refine WQ.skip (by kernel_rfl) ?_
                refine WQ.eq (a' := ?_) ?_ ?_
                rotate_left
                · try simp only [Act.put, List.setIfInBounds_toArray, List.set_cons_zero, List.set_cons_succ]
                  exact rfl
                refine WQ.skip (by kernel_rfl) ?_
                refine WQ.eq (a' := ?_) ?_ ?_
                rotate_left
                · try simp only [Act.put, List.setIfInBounds_toArray, List.set_cons_zero, List.set_cons_succ]
                  exact rfl
                refine WQ.skip (by kernel_rfl) ?_
                refine WQ.eq (a' := ?_) ?_ ?_
                rotate_left
                · try simp only [Act.put, List.setIfInBounds_toArray, List.set_cons_zero, List.set_cons_succ]
                  exact rfl
                refine WQ.skip (by kernel_rfl) ?_
                refine WQ.eq (a' := ?_) ?_ ?_
                rotate_left
                · try simp only [Act.put, List.setIfInBounds_toArray, List.set_cons_zero, List.set_cons_succ]
                  exact rfl
                refine WQ.skip (by kernel_rfl) ?_
                refine WQ.eq (a' := ?_) ?_ ?_
                rotate_left
                · try simp only [Act.put, List.setIfInBounds_toArray, List.set_cons_zero, List.set_cons_succ]
                  exact rfl
                refine WQ.skip (by kernel_rfl) ?_
                refine WQ.eq (a' := ?_) ?_ ?_
                rotate_left
                · try simp only [Act.put, List.setIfInBounds_toArray, List.set_cons_zero, List.set_cons_succ]
                  exact rfl
                refine WQ.gen (v := ?_) (by kernel_rfl) ?_ ?_
                rotate_left
                · intro W hC
                  go_simp
                  try with_reducible rfl
                refine WQ.eq (a' := ?_) ?_ ?_
                rotate_left
                · try simp only [Act.put, List.setIfInBounds_toArray, List.set_cons_zero, List.set_cons_succ]
                  exact rfl
                refine WQ.nil ?_
                intro w2 hB2
                have HB2 := Lib.hid hB2
                clear hB2
                go_wp2_with fail
                go_meet
                case rel => exact ⟨by rw [HF.out], HB2⟩
            · have d1 : decide ((k : Int) < s.size) = false := decide_eq_false (by omega)
              have HF : Hid (sameN s a = n) := show _ = _ from sameN_is hlt (by omega) hle HJ.out (.inr (.inl (by omega)))
              clear hk
              go_wp2_with fail
              refine wp_region_classW (fun W => Below w1.heap.size w1 W) (by kernel_rfl) (by kernel_rfl) HBn.out.drew ?_
              refine WQ.gen (v := ?_) (by kernel_rfl) ?_ ?_
              rotate_left
              · intro W hC
                go_simp
                try with_reducible rfl
              refine WQ.eq (a' := ?_) ?_ ?_
              rotate_left
              · try simp only [Act.put, List.setIfInBounds_toArray, List.set_cons_zero, List.set_cons_succ]
                exact rfl
              refine WQ.gen (v := ?_) (by kernel_rfl) ?_ ?_
              rotate_left
              · intro W hC
                go_simp
                try with_reducible rfl
              refine WQ.eq (a' := ?_) ?_ ?_
              rotate_left
              · try simp only [Act.put, List.setIfInBounds_toArray, List.set_cons_zero, List.set_cons_succ]
                exact rfl
              refine WQ.gen (v := ?_) (by kernel_rfl) ?_ ?_
              rotate_left
              · intro W hC
                go_simp
                try with_reducible rfl
              refine WQ.eq (a' := ?_) ?_ ?_
              rotate_left
              · try simp only [Act.put, List.setIfInBounds_toArray, List.set_cons_zero, List.set_cons_succ]
                exact rfl
              refine WQ.gen (v := ?_) (by kernel_rfl) ?_ ?_
              rotate_left
              · intro W hC
                go_simp
                try with_reducible rfl
              refine WQ.eq (a' := ?_) ?_ ?_
              rotate_left
              · try simp only [Act.put, List.setIfInBounds_toArray, List.set_cons_zero, List.set_cons_succ]
                exact rfl
              refine WQ.gen (v := ?_) (by kernel_rfl) ?_ ?_
              rotate_left
              · intro W hC
                go_simp
                try with_reducible rfl
              refine WQ.eq (a' := ?_) ?_ ?_
              rotate_left
              · try simp only [Act.put, List.setIfInBounds_toArray, List.set_cons_zero, List.set_cons_succ]
                exact rfl
              refine WQ.gen (v := ?_) (by kernel_rfl) ?_ ?_
              rotate_left
              · intro W hC
                go_simp
                try with_reducible rfl
              refine WQ.eq (a' := ?_) ?_ ?_
              rotate_left
              · try simp only [Act.put, List.setIfInBounds_toArray, List.set_cons_zero, List.set_cons_succ]
                exact rfl
              refine WQ.gen (v := ?_) (by kernel_rfl) ?_ ?_
              rotate_left
              · intro W hC
                go_simp
                try with_reducible rfl
              refine WQ.eq (a' := ?_) ?_ ?_
              rotate_left
              · try simp only [Act.put, List.setIfInBounds_toArray, List.set_cons_zero, List.set_cons_succ]
                exact rfl
              refine WQ.skip (by kernel_rfl) ?_
              refine WQ.eq (a' := ?_) ?_ ?_
              rotate_left
              · try simp only [Act.put, List.setIfInBounds_toArray, List.set_cons_zero, List.set_cons_succ]
                exact rfl
              refine WQ.skip (by kernel_rfl) ?_
              refine WQ.eq (a' := ?_) ?_ ?_
              rotate_left
              · try simp only [Act.put, List.setIfInBounds_toArray, List.set_cons_zero, List.set_cons_succ]
                exact rfl
              refine WQ.gen (v := ?_) (by kernel_rfl) ?_ ?_
              rotate_left
              · intro W hC
                go_simp
                try with_reducible rfl
              refine WQ.eq (a' := ?_) ?_ ?_
              rotate_left
              · try simp only [Act.put, List.setIfInBounds_toArray, List.set_cons_zero, List.set_cons_succ]
                exact rfl
              refine WQ.gen (v := ?_) (by kernel_rfl) ?_ ?_
              rotate_left
              · intro W hC
                go_simp
                try with_reducible rfl
              refine WQ.eq (a' := ?_) ?_ ?_
              rotate_left
              · try simp only [Act.put, List.setIfInBounds_toArray, List.set_cons_zero, List.set_cons_succ]
                exact rfl
              refine WQ.skip (by kernel_rfl) ?_
              refine WQ.eq (a' := ?_) ?_ ?_
              rotate_left
              · try simp only [Act.put, List.setIfInBounds_toArray, List.set_cons_zero, List.set_cons_succ]
                exact rfl
              refine WQ.skip (by kernel_rfl) ?_
              refine WQ.eq (a' := ?_) ?_ ?_
              rotate_left
              · try simp only [Act.put, List.setIfInBounds_toArray, List.set_cons_zero, List.set_cons_succ]
                exact rfl
              refine WQ.skip (by kernel_rfl) ?_
              refine WQ.eq (a' := ?_) ?_ ?_
              rotate_left
              · try simp only [Act.put, List.setIfInBounds_toArray, List.set_cons_zero, List.set_cons_succ]
                exact rfl
              refine WQ.skip (by kernel_rfl) ?_
              refine WQ.eq (a' := ?_) ?_ ?_
              rotate_left
              · try simp only [Act.put, List.setIfInBounds_toArray, List.set_cons_zero, List.set_cons_succ]
                exact rfl
              refine WQ.skip (by kernel_rfl) ?_
              refine WQ.eq (a' := ?_) ?_ ?_
              rotate_left
              · try simp only [Act.put, List.setIfInBounds_toArray, List.set_cons_zero, List.set_cons_succ]
                exact rfl
              refine WQ.skip (by kernel_rfl) ?_
              refine WQ.eq (a' := ?_) ?_ ?_
              rotate_left
              · try simp only [Act.put, List.setIfInBounds_toArray, List.set_cons_zero, List.set_cons_succ]
                exact rfl
              refine WQ.skip (by kernel_rfl) ?_
              refine WQ.eq (a' := ?_) ?_ ?_
              rotate_left
              · try simp only [Act.put, List.setIfInBounds_toArray, List.set_cons_zero, List.set_cons_succ]
                exact rfl
              refine WQ.skip (by kernel_rfl) ?_
              refine WQ.eq (a' := ?_) ?_ ?_
              rotate_left
              · try simp only [Act.put, List.setIfInBounds_toArray, List.set_cons_zero, List.set_cons_succ]
                exact rfl
              refine WQ.skip (by kernel_rfl) ?_
              refine WQ.eq (a' := ?_) ?_ ?_
              rotate_left
              · try simp only [Act.put, List.setIfInBounds_toArray, List.set_cons_zero, List.set_cons_succ]
                exact rfl
              refine WQ.gen (v := ?_) (by kernel_rfl) ?_ ?_
              rotate_left
              · intro W hC
                go_simp
                try with_reducible rfl
              refine WQ.eq (a' := ?_) ?_ ?_
              rotate_left
              · try simp only [Act.put, List.setIfInBounds_toArray, List.set_cons_zero, List.set_cons_succ]
                exact rfl
              refine WQ.nil ?_
              intro w2 hB2
              have HB2 := Lib.hid hB2
              clear hB2
              go_wp2_with fail
              go_meet
              case rel => exact ⟨by rw [HF.out], HB2⟩
        case rest =>
          obtain ⟨rfl, HB2⟩ := hcut
          generalize wc = w2 at *
          have HO2 := Lib.hid (HO1.out.below HB2.out (Nat.le_refl _))
          have HW2 := Lib.hid (bw_call HB1.out HB2.out)
          have HRA := Lib.hid (HRUN.out a hlt HN3.out)
          obtain ⟨N, hNN⟩ : ∃ N, N = sameN s a := ⟨_, rfl⟩
          rw [← hNN] at hN HRA ⊢
          clear hNN HTA H0 HN3
          obtain ⟨M, hM⟩ : ∃ M, M = 125 + N := ⟨_, rfl⟩
          have e5 : IntKind.i64.wrap (125 + (N : Int)) = (M : Int) := by rw [IntWalk.i64_in _ (by omega)]; omega
          have e6 : IntKind.u8.wrap (M : Int) = M := IntWalk.u8_in _ (by omega)
          have HMC : Hid ((M : Int) = ((UInt8.ofNat M).toNat : Int)) := show _ = _ from by rw [UInt8.toNat_ofNat_of_lt' (show M < 256 by omega)]
          have HRA2 : Hid (rpk (L.drop a) = UInt8.ofNat M :: s[a]'hlt :: rpk (L.drop (a + N))) := show _ = _ from by rw [hM]; exact HRA.out
          have HN := Lib.hid hN
          obtain ⟨an, han⟩ : ∃ y, y = a + N := ⟨_, rfl⟩
          have e7 : IntKind.i64.wrap ((a : Int) + N) = (an : Int) := by rw [IntWalk.i64_in _ (by omega)]; omega
          have HOA := Lib.hid (HO2.out.below (bw_alloc (Below.refl w2.heap.size w2) (.cells #[.int .u8 (M : Int), .int .u8 ((s[a]'hlt).toNat : Int)] 5)) (Nat.le_refl _))
          have HWA := Lib.hid (bw_alloc HW2.out (.cells #[.int .u8 (M : Int), .int .u8 ((s[a]'hlt).toNat : Int)] 5))
          have HAN := Lib.hid han
          rw [← han] at HRA2
          clear hM hN HRA han
          go_wp2_with ((at_builtin; refine wpList_appZ rfl (.tmp 37) (.tmp 44) 34 rfl w.heap.size (.slice q nn c) O rfl HOA.out _ rfl [UInt8.ofNat M, s[a]'hlt] (byte_src2 HMC.out rfl (heap_alloc_new w2 _)) Nat.two_pos (by simp; omega) ?_); intro v6 w6 HO6 HB6)
          obtain ⟨q6, n6, c6, rfl⟩ : ∃ q n c, v6 = .slice q n c := by
            obtain ⟨q, c, h⟩ := HO6.out.shape
            exact ⟨q, _, c, h⟩
          have HW6 := Lib.hid (HWA.out.trans HB6.out)
          have HEQ6 : Hid ((O ++ [UInt8.ofNat M, s[a]'hlt]) ++ rpk (L.drop an) = rpk L) := show _ = _ from by rw [← HEQ.out, HRA2.out, List.append_assoc]; rfl
          go_wp2_with fail
          go_roundw
          case rel => exact ⟨an, q6, n6, c6, _, by have := HN.out; have := HAN.out; omega, by go_num, rfl, HEQ6, HO6, HW6⟩
          case measure => simp [intOf]; have := HN.out; have := HAN.out; omega
      · have h3f : three (L.drop a) = false := by simpa using h3
        rw [h3f]
        have H3 := Lib.hid h3f
        have HSTR : Hid (∀ n, 1 ≤ n → n ≤ 128 → a + n ≤ s.size → (∀ j, a ≤ j → j < a + n → three (L.drop j) = false) → (n = 128 ∨ a + n = s.size ∨ three (L.drop (a + n)) = true) → rpk (L.drop a) = UInt8.ofNat (n - 1) :: ((L.drop a).take n ++ rpk (L.drop (a + n)))) := show ∀ n, _ from fun n h1 h2 h4 h5 h6 => by
          have h7 := rpk_stretch (s := L) (f := a) (a := a + n) (by omega) (by rw [HLL.out]; exact h4) (by omega) h5 (by rw [Nat.add_sub_cancel_left, HLL.out]; exact h6)
          rw [Nat.add_sub_cancel_left] at h7
          exact h7
        clear h3 h3f HTA
        go_upto_block 4 with fail
        go_cut [5] (fun v wx => ∃ n : Nat, v = .int .i64 n ∧ 1 ≤ n ∧ n ≤ 128 ∧ a + n ≤ s.size ∧ Hid (rpk (L.drop a) = UInt8.ofNat (n - 1) :: ((L.drop a).take n ++ rpk (L.drop (a + n)))) ∧ Hid (Below w1.heap.size w1 wx))
        case first =>
          have H0 : Hid (∀ j, a ≤ j → j < a + 0 → three (L.drop j) = false) := show ∀ j, _ from fun j h1 h2 => absurd h2 (by omega)
          go_wp2_with fail
          go_loopg [5] 128 (fun gk i wr => ∃ n : Nat, n + gk = 128 ∧ a + n ≤ s.size ∧ i = .int .i64 n ∧ Hid (∀ j, a ≤ j → j < a + n → three (L.drop j) = false) ∧ Hid (Below w1.heap.size w1 wr))
          case atStart => exact ⟨0, by omega, by omega, rfl, H0, Below.refl _ _⟩
          case round =>
            obtain ⟨n, hn, hle, rfl, HJ, HBn⟩ := hrel
            obtain ⟨k, hk⟩ : ∃ k, k = a + n := ⟨_, rfl⟩
            have e1 : IntKind.i64.wrap ((a : Int) + n) = (k : Int) := by rw [IntWalk.i64_in _ (by omega)]; omega
            by_cases hlk : k < s.size
            · have d1 : decide ((k : Int) < s.size) = true := decide_eq_true (by omega)
              by_cases h128 : n < 128
              · have d0 : decide ((n : Int) < 128) = true := decide_eq_true (by omega)
                have HK := Lib.hid hk
                clear hk
                go_wp2_with fail
                refine (HTHR.out k _ (by omega)).mono ?_
                rintro e w3 ⟨rfl, hb3⟩
                have HB3 := Lib.hid (bw_call HBn.out hb3)
                clear hb3
                by_cases ht : three (L.drop k) = true
                · rw [ht]
                  have hn1 : 1 ≤ n := by
                    rcases Nat.eq_zero_or_pos n with h | h
                    · exfalso
                      have h5 := HK.out
                      rw [h, Nat.add_zero] at h5
                      rw [h5, H3.out] at ht
                      cases ht
                    · exact h
                  have HF := Lib.hid (HSTR.out n hn1 (by omega) hle HJ.out (.inr (.inr (by rw [← HK.out]; exact ht))))
                  clear ht
                  go_wp2_with fail
                  go_meet
                  case rel => exact ⟨n, rfl, hn1, by omega, hle, HF, HB3⟩
                · rw [show three (L.drop k) = false by simpa using ht]
                  have HJ2 : Hid (∀ j, a ≤ j → j < a + (n + 1) → three (L.drop j) = false) := show ∀ j, _ from fun j h1 h2 => by
                    by_cases h5 : j < a + n
                    · exact HJ.out j h1 h5
                    · rw [show j = k by have := HK.out; omega]
                      simpa using ht
                  clear ht
                  go_wp2_with fail
                  go_roundg (gk - 1)
                  case measure => omega
                  case rel => exact ⟨n + 1, by omega, by have := HK.out; omega, by go_num, HJ2, HB3⟩
              · have d0 : decide ((n : Int) < 128) = false := decide_eq_false (by omega)
                have HF := Lib.hid (HSTR.out n (by omega) (by omega) hle HJ.out (.inl (by omega)))
                clear hk
                go_wp2_with fail
                go_meet
                case rel => exact ⟨n, rfl, by omega, by omega, hle, HF, HBn⟩
            · have d1 : decide ((k : Int) < s.size) = false := decide_eq_false (by omega)
              have HF := Lib.hid (HSTR.out n (by omega) (by omega) hle HJ.out (.inr (.inl (by omega))))
              have hn1 : 1 ≤ n := by omega
              clear hk
              go_wp2_with fail
              go_meet
              case rel => exact ⟨n, rfl, hn1, by omega, hle, HF, HBn⟩
        case rest =>
          obtain ⟨n, rfl, hn1, hn128, hle, HF, HB2⟩ := hcut
          generalize wc = w2 at *
          have HO2 := Lib.hid (HO1.out.below HB2.out (Nat.le_refl _))
          have HW2 := Lib.hid (bw_call HB1.out HB2.out)
          obtain ⟨d, hd⟩ : ∃ d, n = d + 1 := ⟨n - 1, by omega⟩
          have e5 : IntKind.i64.wrap ((n : Int) - 1) = (d : Int) := by rw [IntWalk.i64_in _ (by omega)]; omega
          have e6 : IntKind.u8.wrap (d : Int) = d := IntWalk.u8_in _ (by omega)
          have HDC : Hid ((d : Int) = ((UInt8.ofNat d).toNat : Int)) := show _ = _ from by rw [UInt8.toNat_ofNat_of_lt' (show d < 256 by omega)]
          obtain ⟨an, han⟩ : ∃ y, y = a + n := ⟨_, rfl⟩
          have e7 : IntKind.i64.wrap ((a : Int) + n) = (an : Int) := by rw [IntWalk.i64_in _ (by omega)]; omega
          have f2 : a ≤ an := by omega
          have f3 : (a : Int) ≤ an := by omega
          have f4 : (an : Int) ≤ s.size := by omega
          have HF2 : Hid (rpk (L.drop a) = UInt8.ofNat d :: ((L.drop a).take n ++ rpk (L.drop an))) := show _ = _ from by rw [HF.out, han, show n - 1 = d by omega]
          have HOA := Lib.hid (HO2.out.below (bw_alloc (Below.refl w2.heap.size w2) (.cells #[.int .u8 (d : Int)] 5)) (Nat.le_refl _))
          have HWA := Lib.hid (bw_alloc HW2.out (.cells #[.int .u8 (d : Int)] 5))
          have HXE : Hid ((s.extract a an).data.toList = (L.drop a).take n) := show _ = _ from by rw [ByteArray.data_extract, Array.toList_extract, HL.out]; show List.take (an - a) _ = _; rw [show an - a = n by omega]
          have HXL : Hid ((s.extract a an).data.toList.length = n) := show _ = _ from by
            rw [HXE.out, List.length_take, List.length_drop, HLL.out]; omega
          have HXP : Hid (0 < (s.extract a an).data.toList.length) := show _ < _ from by rw [HXL.out]; omega
          have HAN := Lib.hid han
          clear hd han HF
          go_wp2_with (first
            | ((at_builtin; refine wpList_appZ rfl (.tmp 66) (.tmp 70) 34 rfl w.heap.size (.slice q nn c) O rfl HOA.out _ rfl [UInt8.ofNat d] (byte_src HDC.out (heap_alloc_new w2 _)) Nat.one_pos (by simp; omega) ?_); intro v5 w5 HO5 HB5; obtain ⟨q5, n5, c5, rfl⟩ := OwnZ.sh HO5.out; have HW5 := Lib.hid (HWA.out.trans HB5.out))
            | ((at_builtin; refine wpList_appZ rfl (.tmp 72) (.tmp 78) 9 rfl w.heap.size (.slice q5 n5 c5) (O ++ [UInt8.ofNat d]) rfl HO5.out _ rfl (s.extract a an).data.toList (Src.ofString w5 Try.underlying9 (s.extract a an)) HXP.out (by rw [HXL.out]; simp; omega) ?_); intro v6 w6 HO6 HB6))
          obtain ⟨q6, n6, c6, rfl⟩ : ∃ q n c, v6 = .slice q n c := by
            obtain ⟨q, c, h⟩ := HO6.out.shape
            exact ⟨q, _, c, h⟩
          have HW6 := Lib.hid (HW5.out.trans HB6.out)
          have HEQ6 : Hid ((O ++ [UInt8.ofNat d] ++ (s.extract a an).data.toList) ++ rpk (L.drop an) = rpk L) := show _ = _ from by rw [← HEQ.out, HF2.out, HXE.out]; simp [List.append_assoc]
          go_wp2_with fail
          go_roundw
          case rel => exact ⟨an, q6, n6, c6, _, by omega, by go_num, rfl, HEQ6, HO6, HW6⟩
          case measure => simp [intOf]; have := HAN.out; omega
    · obtain rfl : a = s.size := by omega
      have hcv : (convert 34 9 (.slice q nn c)).run Try.prog wr = .ok (.string (bstr (rpk L))) wr := by
        have h1 := HO.out.conv
        have hnil : rpk (L.drop s.size) = [] := by rw [← HLL.out, List.drop_length]; rfl
        have h2 := HEQ.out
        rw [hnil, List.append_nil] at h2
        rw [h2] at h1
        exact h1
      go_wp2_with fail
      go_ret
      exact ⟨rfl, HB.out⟩
end Go.Proofs.Ytbelofikknfoaaa
