/- disk's law: a disk and the reference's, side by side; cavalcaderef01.Same. -/
import Derived.Test.YtopdhefhagckoaaRX5
import Derived.Test.YtopdhefhagckoaaDkAwake
import Derived.Test.YtopdhefhagckoaaD9Open
namespace Go.Proofs.Ytopdhefhagckoaa
open Go.RowKit Go.Maps Go.Sort
set_option maxHeartbeats 4000000
set_option maxRecDepth 4000
/-- a disk and a reference in memory, apart; blocks that are neither's -/
def Both (N : Nat) (w W : World) (bd bm bx : Nat) (d1 d2 : DS) (O : Nat → Prop) : Prop :=
  ∃ pl left v, stOf pl left = d1 ∧ DkAt N w W bd bm pl left ∧ XAt N W bx v d2 ∧ (∀ k, Xs bx v k → ¬ Its bd bm pl k) ∧ ∀ k, O k → k < W.heap.size ∧ ¬ Its bd bm pl k ∧ ¬ Xs bx v k
/-- .. behind a call -/
structure BothTo (N : Nat) (w W W' : World) (bd bm bx : Nat) (d1 d2 : DS) (O : Nat → Prop) : Prop where
  both : Both N w W' bd bm bx d1 d2 O
  size : W.heap.size ≤ W'.heap.size
  keep : ∀ k, O k → W'.heap[k]? = W.heap[k]?
section
variable {N : Nat} {w W W' : World} {bd bm bx : Nat} {d1 d2 d1' d2' : DS} {O : Nat → Prop} {pl : List FB} {left : Option Nat} {v : Value}
theorem Both.below (h : Both N w W bd bm bx d1 d2 O) : Below N w W := by
  obtain ⟨pl, left, v, -, hD, -⟩ := h
  exact hD.below
theorem Both.next (h : Both N w W bd bm bx d1 d2 O) (hb : Below W.heap.size W W') : BothTo N w W W' bd bm bx d1 d2 O := by
  obtain ⟨pl, left, v, hs, hD, hX, hd, hO⟩ := h
  exact ⟨⟨pl, left, v, hs, hD.next hb, hX.next hb, hd, fun k hk => ⟨Nat.lt_of_lt_of_le (hO k hk).1 hb.size, (hO k hk).2⟩⟩, hb.size, fun k hk => hb.block k (hO k hk).1⟩
/-- a block of one's own, behind -/
theorem Both.alloc (h : Both N w W bd bm bx d1 d2 O) (o : Obj) : Both N w (W.alloc o) bd bm bx d1 d2 (fun k => O k ∨ k = W.heap.size) := by
  obtain ⟨pl, left, v, hs, hD, hX, hd, hO⟩ := h
  have hb : Below W.heap.size W (W.alloc o) := bw_alloc (Below.refl _ _) o
  refine ⟨pl, left, v, hs, hD.next hb, hX.next hb, hd, fun k hk => ?_⟩
  rcases hk with hk | rfl
  · exact ⟨Nat.lt_of_lt_of_le (hO k hk).1 hb.size, (hO k hk).2⟩
  · exact ⟨by simp, fun hi => Nat.lt_irrefl _ (hD.its_lt hi), fun hx => Nat.lt_irrefl _ (hX.lt hx)⟩
theorem Both.less {O' : Nat → Prop} (h : Both N w W bd bm bx d1 d2 O) (hO : ∀ k, O' k → O k) : Both N w W bd bm bx d1 d2 O' := by
  obtain ⟨pl, left, v, hs, hD, hX, hd, hO1⟩ := h
  exact ⟨pl, left, v, hs, hD, hX, hd, fun k hk => hO1 k (hO k hk)⟩
theorem BothTo.trans {W2 : World} (h : BothTo N w W W' bd bm bx d1 d2 O) (k : BothTo N w W' W2 bd bm bx d1' d2' O) : BothTo N w W W2 bd bm bx d1' d2' O :=
  ⟨k.both, Nat.le_trans h.size k.size, fun j hj => (k.keep j hj).trans (h.keep j hj)⟩
theorem BothTo.less {O' : Nat → Prop} (h : BothTo N w W W' bd bm bx d1 d2 O) (hO : ∀ k, O' k → O k) : BothTo N w W W' bd bm bx d1 d2 O' := ⟨h.both.less hO, h.size, fun k hk => h.keep k (hO k hk)⟩
theorem Both.dto (hD : DkAt N w W bd bm pl left) (hX : XAt N W bx v d2) (hd : ∀ k, Xs bx v k → ¬ Its bd bm pl k) (hO : ∀ k, O k → k < W.heap.size ∧ ¬ Its bd bm pl k ∧ ¬ Xs bx v k) (hT : DkTo N w W W' bd bm pl d1') : BothTo N w W W' bd bm bx d1' d2 O := by
  obtain ⟨⟨pl', left', hD', hs', hp'⟩, hTn⟩ := hT
  have hits : ∀ k, k < W.heap.size → Its bd bm pl' k → Its bd bm pl k := fun k hk hi => by
    rcases hi with h | h | ⟨p, hp, rfl⟩
    · exact .inl h
    · exact .inr (.inl h)
    · rcases hp' p hp with h | ⟨q, hq, e⟩
      · omega
      · exact .inr (.inr ⟨q, hq, e⟩)
  exact ⟨⟨pl', left', v, hs', hD', hX.kept hTn hd, fun k hk hi => hd k hk (hits k (hX.lt hk) hi), fun k hk => ⟨Nat.lt_of_lt_of_le (hO k hk).1 hTn.size, fun hi => (hO k hk).2.1 (hits k (hO k hk).1 hi), (hO k hk).2.2⟩⟩, hTn.size, fun k hk => hTn.block k (hO k hk).1 (hO k hk).2.1⟩
theorem Both.xto (hs : stOf pl left = d1) (hD : DkAt N w W bd bm pl left) (hX : XAt N W bx v d2) (hd : ∀ k, Xs bx v k → ¬ Its bd bm pl k) (hO : ∀ k, O k → k < W.heap.size ∧ ¬ Its bd bm pl k ∧ ¬ Xs bx v k) (hT : XTo N W W' bx v d2') : BothTo N w W W' bd bm bx d1 d2' O := by
  obtain ⟨v', hX', hn, hTn⟩ := hT
  have hxs : ∀ k, k < W.heap.size → Xs bx v' k → Xs bx v k := fun k hk hi => by
    rcases hi with h | h
    · exact .inl h
    · rcases hn k h with h | h
      · exact .inr h
      · omega
  have hge : ∀ k, Xs bx v k → N ≤ k := fun k hk => hX.ge hk
  exact ⟨⟨pl, left, v', hs, hD.kept hTn (fun k hi hx => hd k hx hi) hge, hX', fun k hk hi => by
    rcases Nat.lt_or_ge k W.heap.size with h | h
    · exact hd k (hxs k h hk) hi
    · have := hD.its_lt hi; omega, fun k hk => ⟨Nat.lt_of_lt_of_le (hO k hk).1 hTn.size, (hO k hk).2.1, fun hx => (hO k hk).2.2 (hxs k (hO k hk).1 hx)⟩⟩, hTn.size, fun k hk => hTn.block k (hO k hk).1 (hO k hk).2.2⟩
theorem RdIn.own_ok (h : Both N w W bd bm bx d1 d2 O) {u : Value} {xs : List Value} (hr : RdIn W u xs O) (hT : BothTo N w W W' bd bm bx d1' d2' O) : RdIn W' u xs O := hr.kept hT.size fun b _ hb => hT.keep b hb
end
/-- the calls of both, told of both -/
theorem Both.calls1 {N : Nat} {w : World} {bd bm bx : Nat} {d1 d2 : DS} {O : Nat → Prop} {f : FuncId} {args : Array Value} {g : DS → DS × Int} (hf : ∀ (W : World) (pl : List FB) (left : Option Nat), DkAt N w W bd bm pl left → Calls Try.prog f args W fun e w' => e = .returned (.int .i64 (g (stOf pl left)).2) ∧ DkTo N w W w' bd bm pl (g (stOf pl left)).1) (W : World) (h : Both N w W bd bm bx d1 d2 O) :
    Calls Try.prog f args W fun e w' => e = .returned (.int .i64 (g d1).2) ∧ BothTo N w W w' bd bm bx (g d1).1 d2 O := by
  obtain ⟨pl, left, v, rfl, hD, hX, hd, hO⟩ := h
  exact (hf W pl left hD).mono fun e w' h => ⟨h.1, Both.dto hD hX hd hO h.2⟩
theorem Both.calls2 {N : Nat} {w : World} {bd bm bx : Nat} {d1 d2 : DS} {O : Nat → Prop} {f : FuncId} {args : Array Value} {g : DS → DS × Int} (hf : ∀ (W : World) (v : Value) (d : DS), XAt N W bx v d → Calls Try.prog f args W fun e w' => e = .returned (.int .i64 (g d).2) ∧ XTo N W w' bx v (g d).1) (W : World) (h : Both N w W bd bm bx d1 d2 O) :
    Calls Try.prog f args W fun e w' => e = .returned (.int .i64 (g d2).2) ∧ BothTo N w W w' bd bm bx d1 (g d2).1 O := by
  obtain ⟨pl, left, v, hs, hD, hX, hd, hO⟩ := h
  exact (hf W v d2 hX).mono fun e w' h => ⟨h.1, Both.xto hs hD hX hd hO h.2⟩
theorem beq_enc (a b : List UInt8) : ((bstr a).toList == (bstr b).toList) = decide (a = b) := by
  rw [ByteArray.toList_eq, ByteArray.toList_eq, bstr_toList, bstr_toList]
  by_cases h : a = b
  · subst h; simp
  · rw [decide_eq_false h]; exact beq_false_of_ne h
/-- the same texts? -/
theorem rsame_any (v1 v2 : Value) (xs ys : List (List UInt8)) (w : World) {S1 S2 : Nat → Prop} (h1 : RdIn w v1 (xs.map encStr) S1) (h2 : RdIn w v2 (ys.map encStr) S2) (hl : xs.length ≤ 1099511627776) :
    Calls Try.prog 21 #[v1, v2] w fun e w' => e = .returned (.bool (decide (xs = ys))) ∧ Below w.heap.size w w' := by
  obtain ⟨A1, c1, rfl, hr1⟩ := h1
  obtain ⟨A2, c2, rfl, hr2⟩ := h2
  have HR1 := Lib.hid hr1
  have HR2 := Lib.hid hr2
  obtain ⟨res, hres⟩ : ∃ x, x = decide (xs = ys) := ⟨_, rfl⟩
  rw [← hres]
  have HRES := Lib.hid hres
  obtain ⟨m, hm⟩ : ∃ m, m = xs.length := ⟨_, rfl⟩
  obtain ⟨k, hk⟩ : ∃ k, k = ys.length := ⟨_, rfl⟩
  rw [List.length_map, List.length_map, ← hm, ← hk]
  have HM := Lib.hid hm
  have HK := Lib.hid hk
  rw [← hm] at hl
  clear hr1 hr2 hres hm hk
  by_cases hmk : m = k
  · subst hmk
    go_enter Try.func21, Try.ntmps21
    go_wp2_with fail
    go_loopw [5] (fun i_ wr => ∃ i : Nat, i_ = .int .i64 i ∧ i ≤ m ∧ Hid (∀ x, x < i → xs[x]? = ys[x]?) ∧ Hid (Below w.heap.size w wr)) (fun i_ _ => match i_ with | .int _ j => m - j.toNat | _ => 0)
    case atStart => exact ⟨0, rfl, Nat.zero_le _, (show ∀ x, _ from fun x hx => absurd hx (Nat.not_lt_zero x)), Below.refl _ _⟩
    case round =>
      obtain ⟨i, rfl, hin, HE, HB⟩ := hrel
      by_cases hlt : i < m
      · have hl1 : i < xs.length := by have := HM.out; omega
        have hl2 : i < ys.length := by have := HK.out; omega
        obtain ⟨g1, o1, e1, hb1, -, hc1⟩ := HR1.out i (by rw [List.length_map]; exact hl1)
        obtain ⟨g2, o2, e2, hb2, -, hc2⟩ := HR2.out i (by rw [List.length_map]; exact hl2)
        subst e1 e2
        rw [List.getElem_map] at hc1 hc2
        obtain ⟨a, ha⟩ : ∃ a, a = xs[i]'hl1 := ⟨_, rfl⟩
        obtain ⟨b, hb⟩ : ∃ b, b = ys[i]'hl2 := ⟨_, rfl⟩
        have k1 : wr.cell? ⟨g1, o1 + i, none⟩ = some (.string (bstr a)) := by rw [HB.out.cell (p := ⟨g1, o1 + i, none⟩) hb1, hc1, ← ha]; rfl
        have k2 : wr.cell? ⟨g2, o2 + i, none⟩ = some (.string (bstr b)) := by rw [HB.out.cell (p := ⟨g2, o2 + i, none⟩) hb2, hc2, ← hb]; rfl
        have HA : Hid (xs[i]? = some a ∧ ys[i]? = some b) := show _ ∧ _ from ⟨by rw [ha]; exact List.getElem?_eq_getElem hl1, by rw [hb]; exact List.getElem?_eq_getElem hl2⟩
        have f0 : (0 : Int) ≤ i := by omega
        have f1 : (i : Int) < m := by omega
        clear ha hb hc1 hc2 hl1 hl2 hb1 hb2
        by_cases hab : a = b
        · have hq : ((bstr a).toList == (bstr b).toList) = true := by rw [beq_enc, decide_eq_true hab]
          have HE2 : Hid (∀ x, x < i + 1 → xs[x]? = ys[x]?) := show ∀ x, _ from fun x hx => (Nat.lt_succ_iff_lt_or_eq.1 hx).elim (HE.out x) (fun h => by rw [h, HA.out.1, HA.out.2, hab])
          clear hab
          go_wp2_with fail
          go_quiet (fail)
          have HB2 := Lib.hid (bw_drewN HB.out nq)
          generalize wr.drewN nq = w5 at *
          go_wp2_with fail
          go_roundw
          case rel => exact ⟨i + 1, by go_num, by omega, HE2, HB2⟩
          case measure => simp; omega
        · have hq : ((bstr a).toList == (bstr b).toList) = false := by rw [beq_enc, decide_eq_false hab]
          have HF : Hid (res = false) := show _ = _ from by
            rw [HRES.out]
            refine decide_eq_false fun h => hab ?_
            have h3 := HA.out
            rw [h] at h3
            exact Option.some.inj (h3.1.symm.trans h3.2)
          clear hab
          go_wp2_with fail
          go_quiet (fail)
          have HB2 := Lib.hid (bw_drewN HB.out nq)
          generalize wr.drewN nq = w5 at *
          go_wp2_with fail
          go_ret
          exact ⟨by rw [HF.out]; rfl, HB2.out⟩
      · have hie : i = m := by omega
        subst hie
        have d0 : decide ((i : Int) < i) = false := decide_eq_false (by omega)
        have HF : Hid (res = true) := show _ = _ from by
          rw [HRES.out]
          refine decide_eq_true (List.ext_getElem? fun x => ?_)
          by_cases hx : x < i
          · exact HE.out x hx
          · rw [List.getElem?_eq_none (by have := HM.out; omega), List.getElem?_eq_none (by have := HK.out; omega)]
        go_wp2_with fail
        go_ret
        exact ⟨by rw [HF.out]; rfl, HB.out⟩
  · have HF : Hid (res = false) := show _ = _ from by
      rw [HRES.out]
      exact decide_eq_false fun h => hmk (by rw [HM.out, HK.out, h])
    have hd : ((m : Int) != (k : Int)) = true := by rw [bne_iff_ne]; omega
    clear hmk
    go_enter Try.func21, Try.ntmps21
    go_wp2_with fail
    go_ret
    exact ⟨by rw [HF.out]; rfl, Below.refl _ _⟩
end Go.Proofs.Ytopdhefhagckoaa
