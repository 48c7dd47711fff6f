/- notes.fields of three numbers: what the call does. -/
import Derived.Test.YtbeooeihedhabaaDoorBoxPure
import Derived.Test.YtbeooeihedhabaaDoorRd
import Derived.Test.YtbeooeihedhabaaDoorTn
import Derived.Test.YtbeooeihedhabaaDoorNums
import Derived.BigQuiet
import Derived.WalkMore
namespace Go.Proofs.YtbeooeihedhabaaDoor
open Go.RowKit
set_option maxHeartbeats 4000000
set_option maxRecDepth 4000
/-- all of a text is a list that begins with three numbers -/
def rdF (s : ByteArray) : Option (Nat × Nat × Nat × List ByteArray) :=
  match rdAll s with
  | .error _ => none
  | .ok l => rd3 l
theorem rdB_rdF (s : ByteArray) : rdB s = match rdF s with
    | none => none
    | some (x, y, z, r) => if numOk x = true ∧ numOk y = true ∧ numOk z = true ∧ r.length ≤ 512 then match rdPs r with
        | none => none
        | some ps => some ⟨x, y, z, ps⟩
      else none := by
  unfold rdB rdF
  cases rdAll s with
  | error e => rfl
  | ok l => rfl
def ptr (b i : Nat) : Value := .pointer (some ⟨b, i, none⟩)
/-- what fields hands back -/
def FRes (w : World) (pb : Nat) (rest : List Value) (T : TypeId) (o : Option (Nat × Nat × Nat × List ByteArray)) (e : Ending) (w' : World) : Prop :=
  match o with
  | none => e = .returned (.tuple #[.slice none 0 0, .bool false])
  | some (x, y, z, r) => ∃ q c, e = .returned (.tuple #[.slice q r.length c, .bool true]) ∧ w'.heap[pb]? = some (.cells (Value.int .i64 (x : Int) :: Value.int .i64 (y : Int) :: Value.int .i64 (z : Int) :: rest).toArray T (0, 0)) ∧ RdIn w' (.slice q r.length c) (strs r) (fun b => w.heap.size ≤ b)
def fieldsPost (w : World) (pb : Nat) (rest : List Value) (T : TypeId) (s : ByteArray) (e : Ending) (w' : World) : Prop :=
  Turn w w' (fun k => k = pb) ∧ FRes w pb rest T (rdF s) e w'
theorem RdIn.drop {W : World} {q : Option Addr} {n c : Nat} {xs : List Value} {S : Nat → Prop} (h : RdIn W (.slice q n c) xs S) (k : Nat) : RdIn W (.slice (q.map fun x => ⟨x.block, x.off + k, none⟩) (n - k) (c - k)) (xs.drop k) S := by
  obtain ⟨A, c', e, r⟩ := h
  injection e with e1 e2 e3
  subst e1 e2 e3
  refine ⟨_, _, by rw [List.length_drop], fun j hj => ?_⟩
  rw [List.length_drop] at hj
  obtain ⟨b, off, rfl, h2, h3, h4⟩ := r (k + j) (by omega)
  exact ⟨b, off + k, rfl, h2, h3, by rw [List.getElem_drop, Nat.add_assoc]; exact h4⟩
theorem rnum_cases (x : ByteArray) : (∃ n, rdNum x = .ok n ∧ rnV (rdN x.data.toList) 0 = .tuple #[.int .i64 (n : Int), .int .i64 (x.size : Int), .int .i64 0]) ∨ ((∃ e, rdNum x = .error e) ∧ ((∃ e, rnV (rdN x.data.toList) 0 = .tuple #[.int .i64 0, .int .i64 0, .int .i64 e] ∧ (e != 0) = true) ∨ ∃ n c : Nat, rnV (rdN x.data.toList) 0 = .tuple #[.int .i64 (n : Int), .int .i64 (c : Int), .int .i64 0] ∧ c ≠ x.size)) := by
  unfold rdNum
  cases hr : rdN x.data.toList with
  | error e =>
    refine .inr ⟨⟨e, rfl⟩, .inl ⟨e, rfl, ?_⟩⟩
    have := rdN_err hr
    rw [bne_iff_ne]
    omega
  | ok nc =>
    obtain ⟨n, c⟩ := nc
    dsimp only
    by_cases hc : c = x.size
    · rw [if_pos hc]
      exact .inl ⟨n, rfl, by rw [← hc]; show Value.tuple #[.int .i64 (n : Int), .int .i64 ((0 + c : Nat) : Int), .int .i64 0] = _; rw [Nat.zero_add]⟩
    · rw [if_neg hc]
      exact .inr ⟨⟨6, rfl⟩, .inr ⟨n, c, by show Value.tuple #[.int .i64 (n : Int), .int .i64 ((0 + c : Nat) : Int), .int .i64 0] = _; rw [Nat.zero_add], hc⟩⟩
/-- a block whose first k of three numbers are written -/
def pref (ns : List Nat) (x0 x1 x2 : Value) (rest : List Value) : List Value := (ns.map fun (n : Nat) => Value.int .i64 (n : Int)) ++ (([x0, x1, x2].drop ns.length) ++ rest)
theorem pref_set {ns : List Nat} {x0 x1 x2 : Value} {rest : List Value} (h : ns.length < 3) (n : Nat) : (pref ns x0 x1 x2 rest).set ns.length (.int .i64 (n : Int)) = pref (ns ++ [n]) x0 x1 x2 rest := by
  match ns, h with
  | [], _ => rfl
  | [_], _ => rfl
  | [_, _], _ => rfl
theorem pref_at {ns : List Nat} {x0 x1 x2 : Value} {rest : List Value} (hx : (∃ n0, x0 = Value.int .i64 n0) ∧ (∃ n1, x1 = Value.int .i64 n1) ∧ ∃ n2, x2 = Value.int .i64 n2) (h : ns.length < 3) : ∃ m, (pref ns x0 x1 x2 rest)[ns.length]? = some (.int .i64 m) := by
  obtain ⟨⟨n0, rfl⟩, ⟨n1, rfl⟩, n2, rfl⟩ := hx
  match ns, h with
  | [], _ => exact ⟨n0, rfl⟩
  | [_], _ => exact ⟨n1, rfl⟩
  | [_, _], _ => exact ⟨n2, rfl⟩
def ok3 (ts : List ByteArray) (ns : List Nat) : Prop := ∀ (j : Nat) (h : j < ns.length), ∃ t, ts[j]? = some t ∧ rdNum t = .ok (ns[j]'h)
theorem ok3_snoc {ts : List ByteArray} {ns : List Nat} {t : ByteArray} {n : Nat} (h : ok3 ts ns) (ht : ts[ns.length]? = some t) (hn : rdNum t = .ok n) : ok3 ts (ns ++ [n]) := fun j hj => by
  by_cases hlt : j < ns.length
  · obtain ⟨t', h1, h2⟩ := h j hlt
    exact ⟨t', h1, by rw [List.getElem_append_left hlt]; exact h2⟩
  · have hje : j = ns.length := by rw [List.length_append, List.length_cons, List.length_nil] at hj; omega
    subst hje
    exact ⟨t, ht, by rw [List.getElem_append_right (Nat.le_refl _)]; simpa using hn⟩
theorem rd3_fail {ts : List ByteArray} {k : Nat} (hk : k < 3) {t : ByteArray} (ht : ts[k]? = some t) {e : Int} (he : rdNum t = .error e) : rd3 ts = none := by
  unfold rd3
  split
  · rename_i a b c r
    match k, hk with
    | 0, _ => cases ht; rw [he]
    | 1, _ => cases ht; cases rdNum a with
      | error _ => rfl
      | ok x => dsimp only; rw [he]
    | 2, _ => cases ht; cases rdNum a with
      | error _ => rfl
      | ok x => dsimp only; cases rdNum b with
        | error _ => rfl
        | ok y => dsimp only; rw [he]
  · rfl
theorem rd3_done {A B C : ByteArray} {r : List ByteArray} {x y z : Nat} (h : ok3 (A :: B :: C :: r) [x, y, z]) : rd3 (A :: B :: C :: r) = some (x, y, z, r) := by
  obtain ⟨a, h1, h2⟩ := h 0 (show 0 < 3 by decide)
  obtain ⟨b, h3, h4⟩ := h 1 (show 1 < 3 by decide)
  obtain ⟨c, h5, h6⟩ := h 2 (show 2 < 3 by decide)
  cases h1
  cases h3
  cases h5
  unfold rd3
  have e1 : rdNum A = .ok x := h2
  have e2 : rdNum B = .ok y := h4
  have e3 : rdNum C = .ok z := h6
  simp only [e1, e2, e3]
/-- what the loop holds -/
structure FdAt (w wr : World) (bn pb : Nat) (x0 x1 x2 : Value) (rest : List Value) (T : TypeId) (u : Value) (ts : List ByteArray) (ns : List Nat) : Prop where
  turn : Turn w wr (fun k => k = pb)
  row : RdIn wr u (strs ts) (fun b => w.heap.size ≤ b)
  bn : wr.heap[bn]? = some (.cells #[ptr pb 0, ptr pb 1, ptr pb 2] 94 (0, 0))
  pb : wr.heap[pb]? = some (.cells (pref ns x0 x1 x2 rest).toArray T (0, 0))
  ok : ok3 ts ns
theorem FdAt.store {w wr : World} {bn pb : Nat} {x0 x1 x2 : Value} {rest : List Value} {T : TypeId} {u : Value} {ts : List ByteArray} {ns : List Nat} (h : FdAt w wr bn pb x0 x1 x2 rest T u ts ns) (hp : pb < w.heap.size) (hne : bn ≠ pb) (hl : ns.length < 3) {t : ByteArray} {n : Nat} (ht : ts[ns.length]? = some t) (hn : rdNum t = .ok n) : FdAt w (wr.setCell ⟨pb, ns.length, none⟩ (.int .i64 (n : Int))) bn pb x0 x1 x2 rest T u ts (ns ++ [n]) := by
  have hT := Turn.set wr pb ns.length (.int .i64 (n : Int))
  refine ⟨h.turn.trans hT fun _ _ e => e, h.row.kept hT.size fun b hb hs => hT.block b hb (by show b ≠ pb; omega), (hT.block bn (block_lt h.bn) hne).trans h.bn, ?_, ok3_snoc h.ok ht hn⟩
  rw [← pref_set hl n]
  exact set_row h.pb (.int .i64 (n : Int))
theorem fields_any (s : ByteArray) (w : World) (bn pb : Nat) (x0 x1 x2 : Value) (rest : List Value) (T : TypeId) (hs : s.size ≤ 140737488355328) (hb : w.heap[bn]? = some (.cells #[ptr pb 0, ptr pb 1, ptr pb 2] 94 (0, 0))) (hp : w.heap[pb]? = some (.cells (x0 :: x1 :: x2 :: rest).toArray T (0, 0))) (hx : (∃ n0, x0 = .int .i64 n0) ∧ (∃ n1, x1 = .int .i64 n1) ∧ ∃ n2, x2 = .int .i64 n2) (hne : bn ≠ pb) :
    Calls Tryd.prog 71 #[.string s, .slice (some ⟨bn, 0, none⟩) 3 3] w (fieldsPost w pb rest T s) := by
  have HC := rl_any s 0 w hs (Nat.zero_le _)
  rw [List.drop_zero] at HC
  have HP := Lib.hid hp
  have HB := Lib.hid hb
  have hF : rdF s = match rdAll s with | .error _ => none | .ok l => rd3 l := rfl
  unfold fieldsPost
  cases hr : rdL s.data.toList with
  | error x =>
    have hA : rdAll s = .error x := by simp [rdAll, hr]
    rw [hA] at hF
    have hx0 := rdL_err hr
    have hne0 : (x != 0) = true := ne0_of3 hx0
    rw [hr] at HC
    rw [hF]
    have HC := Lib.hid HC
    clear hr hF hA hx0 hb hp hx
    go_enter Tryd.func71, Tryd.ntmps71
    go_wp2_with fail
    refine HC.out.mono ?_
    rintro e w1 ⟨hb1, rfl⟩
    have HB1 := Lib.hid hb1
    clear hb1
    go_wp2_with fail
    go_ret2
    exact ⟨Turn.of_below HB1.out _, rfl⟩
  | ok tc =>
    obtain ⟨ts, c⟩ := tc
    rw [hr] at HC
    by_cases hcs : c = s.size
    · have hA : rdAll s = .ok ts := by simp [rdAll, hr, hcs]
      have hsz := rdAll_sizes hA
      rw [hA] at hF
      dsimp only at hF
      by_cases h3 : ts.length < 3
      · have hn3 : rd3 ts = none := by
          match ts, h3 with
          | [], _ => rfl
          | [_], _ => rfl
          | [_, _], _ => rfl
        rw [hF, hn3]
        have d0 : decide ((ts.length : Int) < 3) = true := decide_eq_true (by omega)
        have q0 : ((c : Int) != (s.size : Int)) = false := by rw [hcs]; exact bne_self_eq_false _
        have HC := Lib.hid HC
        clear hr hF hA hb hp hx hn3 hcs hsz
        go_enter Tryd.func71, Tryd.ntmps71
        go_wp2_with fail
        refine HC.out.mono ?_
        rintro e w1 ⟨hb1, u, rfl, hO⟩
        obtain ⟨q, cq, rfl⟩ : ∃ q cq, u = .slice q ts.length cq := by
          rcases hO.2 with ⟨rfl, h0⟩ | ⟨g, cap, cur, rfl, _⟩
          · exact ⟨_, _, by rw [h0]⟩
          · exact ⟨_, _, rfl⟩
        have HB1 := Lib.hid hb1
        clear hb1 hO
        simp only [Nat.zero_add]
        go_wp2_with fail
        go_ret2
        exact ⟨Turn.of_below HB1.out _, rfl⟩
      · obtain ⟨A, B, C, r, rfl⟩ : ∃ A B C r, ts = A :: B :: C :: r := by
          match ts, h3 with
          | A :: B :: C :: r, _ => exact ⟨A, B, C, r, rfl⟩
          | [], h => exact absurd (Nat.zero_lt_succ 2) h
          | [_], h => exact absurd (by decide : 1 < 3) h
          | [_, _], h => exact absurd (by decide : 2 < 3) h
        have HF := Lib.hid hF
        have hn3 : 3 ≤ r.length + 3 := by omega
        have d0 : decide ((((A :: B :: C :: r).length : Nat) : Int) < 3) = false := decide_eq_false (by simp only [List.length_cons]; omega)
        obtain ⟨ts, hts⟩ : ∃ ts, ts = A :: B :: C :: r := ⟨_, rfl⟩
        obtain ⟨m, hm⟩ : ∃ m, m = ts.length := ⟨_, rfl⟩
        have hm3 : 3 ≤ m := by rw [hm, hts]; simp
        rw [← hts] at HC hF HF hsz d0
        rw [← hm] at d0
        have HTS := Lib.hid hts
        have HMM := Lib.hid hm
        have HX := Lib.hid hx
        have HPL : Hid (pb < w.heap.size) := show _ < _ from block_lt hp
        have HSZ := Lib.hid hsz
        have q0 : ((c : Int) != (s.size : Int)) = false := by rw [hcs]; exact bne_self_eq_false _
        have HC := Lib.hid HC
        clear hr hF hA hb hp hx hcs h3 hts hm hsz hn3
        go_enter Tryd.func71, Tryd.ntmps71
        go_wp2_with fail
        refine HC.out.mono ?_
        rintro e w1 ⟨hb1, u, rfl, hO⟩
        rw [← HMM.out] at hO
        obtain ⟨q, cq, rfl, HMC⟩ : ∃ q cq, u = .slice q m cq ∧ Hid (m ≤ cq) := by
          rcases hO.2 with ⟨rfl, h0⟩ | ⟨g, cap, cur, rfl, hcap⟩
          · exact ⟨_, 0, by rw [h0], show _ ≤ _ from Nat.le_of_eq h0⟩
          · exact ⟨_, _, rfl, show _ ≤ _ from hcap.2.2.1⟩
        have HA1 : Hid (FdAt w w1 bn pb x0 x1 x2 rest T (.slice q m cq) ts []) := show FdAt _ _ _ _ _ _ _ _ _ _ _ _ from ⟨Turn.of_below hb1 _, RdIn.of_own hO, (hb1.block _ (block_lt HB.out)).trans HB.out, (hb1.block _ (block_lt HP.out)).trans HP.out, fun j hj => absurd hj (Nat.not_lt_zero j)⟩
        clear hb1 hO
        simp only [Nat.zero_add]
        go_wp2_with fail
        go_loopw [37] (fun i_ wr => ∃ ns : List Nat, i_ = .int .i64 (ns.length : Nat) ∧ ns.length ≤ 3 ∧ Hid (FdAt w wr bn pb x0 x1 x2 rest T (.slice q m cq) ts ns)) (fun i_ _ => match i_ with | .int _ k => 3 - k.toNat | _ => 0)
        case atStart => exact ⟨[], rfl, by decide, HA1⟩
        case round =>
          obtain ⟨ns, rfl, hk3, HA⟩ := hrel
          obtain ⟨k, hk⟩ : ∃ k, k = ns.length := ⟨_, rfl⟩
          have HKK := Lib.hid hk
          by_cases hlt : ns.length < 3
          · have hkl : ns.length < ts.length := by have := HMM.out; omega
            obtain ⟨g, o, hg, hgl, hgs, hgc⟩ := HA.out.row.at ns.length (by rw [strs, List.length_map]; exact hkl)
            subst hg
            obtain ⟨t, ht⟩ : ∃ t, t = ts[ns.length]'hkl := ⟨_, rfl⟩
            have kt : wr.cell? ⟨g, o + ns.length, none⟩ = some (.string t) := by rw [hgc]; simp [strs, ← ht]
            have HT : Hid (ts[ns.length]? = some t) := show _ = _ from by rw [ht]; exact List.getElem?_eq_getElem hkl
            have htz : t.size ≤ 65536 := HSZ.out t (by rw [ht]; exact List.getElem_mem hkl)
            have kp : wr.cell? ⟨bn, ns.length, none⟩ = some (.pointer (some ⟨pb, ns.length, none⟩)) := by
              rw [cell_of_row _ _ _ _ _ _ HA.out.bn]
              match ns, hlt with
              | [], _ => rfl
              | [_], _ => rfl
              | [_, _], _ => rfl
            have HN := rn_any t 0 wr (by omega) (Nat.zero_le _)
            rw [List.drop_zero] at HN
            have f0 : (0 : Int) ≤ (ns.length : Nat) := by omega
            have f1 : ((ns.length : Nat) : Int) < m := by omega
            have f2 : ((ns.length : Nat) : Int) < 3 := by omega
            clear hgc ht hgl hgs hk
            rcases rnum_cases t with ⟨n, hn, hv⟩ | ⟨⟨e9, he⟩, ⟨e8, hv, h8⟩ | ⟨n8, c8, hv, h8⟩⟩
            · rw [hv] at HN
              have HN := Lib.hid HN
              obtain ⟨y, hy⟩ := pref_at (rest := rest) HX.out hlt
              have ky : wr.cell? ⟨pb, ns.length, none⟩ = some (.int .i64 y) := by
                rw [cell_of_row _ _ _ _ _ _ HA.out.pb]
                simpa using hy
              have cz : wr.frozen? ⟨pb, ns.length, none⟩ = false := frozen_of_row wr pb _ _ _ HA.out.pb
              have HA2 := Lib.hid (HA.out.store HPL.out hne hlt HT.out hn)
              have q1 : ((t.size : Int) != (t.size : Int)) = false := bne_self_eq_false _
              clear hn hv hy
              go_wp2_with fail
              refine HN.out.mono ?_
              rintro e w5 ⟨rfl, rfl⟩
              go_wp2_with fail
              go_roundw
              case rel => exact ⟨ns ++ [n], by rw [List.length_append]; go_num, by rw [List.length_append]; exact hlt, HA2⟩
              case measure => simp; omega
            · rw [hv] at HN
              have HN := Lib.hid HN
              have HFF : Hid (rdF s = none) := show _ = _ from by rw [HF.out]; exact rd3_fail hlt HT.out he
              clear hv he
              go_wp2_with fail
              refine HN.out.mono ?_
              rintro e w5 ⟨rfl, rfl⟩
              go_wp2_with fail
              go_ret2
              rw [HFF.out]
              exact ⟨HA.out.turn, (rfl : _ = _)⟩
            · rw [hv] at HN
              have HN := Lib.hid HN
              have HFF : Hid (rdF s = none) := show _ = _ from by rw [HF.out]; exact rd3_fail hlt HT.out he
              have q1 : ((c8 : Int) != (t.size : Int)) = true := by rw [bne_iff_ne]; omega
              clear hv he h8
              go_wp2_with fail
              refine HN.out.mono ?_
              rintro e w5 ⟨rfl, rfl⟩
              go_wp2_with fail
              go_ret2
              rw [HFF.out]
              exact ⟨HA.out.turn, (rfl : _ = _)⟩
          · obtain ⟨x, y, z, rfl⟩ : ∃ x y z, ns = [x, y, z] := by
              match ns, hk3, hlt with
              | [x, y, z], _, _ => exact ⟨x, y, z, rfl⟩
              | [], _, h => exact absurd (show 0 < 3 by decide) h
              | [_], _, h => exact absurd (show 1 < 3 by decide) h
              | [_, _], _, h => exact absurd (show 2 < 3 by decide) h
              | _ :: _ :: _ :: _ :: l, h, _ => exact absurd h (by simp only [List.length_cons]; omega)
            have HFF : Hid (rdF s = some (x, y, z, r)) := show _ = _ from by
              have h := HA.out.ok
              rw [HTS.out] at h
              rw [HF.out, HTS.out]
              exact rd3_done h
            have HML : Hid (m = r.length + 3) := show _ = _ from by rw [HMM.out, HTS.out]; rfl
            clear hlt hk3 hk
            have f1 : (3 : Int) ≤ m := by omega
            have HRD : Hid (RdIn wr (.slice (q.map fun x => ⟨x.block, x.off + 3, none⟩) (m - 3) (cq - 3)) (strs r) (fun b => w.heap.size ≤ b)) := show RdIn _ _ _ _ from by
              have h := HA.out.row.drop 3
              rw [HTS.out] at h
              exact h
            by_cases hcq : cq = 3
            · have hm3e : m = 3 := by have := HMC.out; omega
              have HR0 : Hid (r = []) := show _ = _ from List.length_eq_zero_iff.mp (by have := HML.out; omega)
              subst hcq
              subst hm3e
              go_wp2_with fail
              go_ret2
              rw [HFF.out, HR0.out]
              exact ⟨HA.out.turn, q, 0, rfl, HA.out.pb, ⟨q, 0, rfl, fun j hj => absurd hj (Nat.not_lt_zero j)⟩⟩
            · go_wp2_with fail
              go_ret2
              rw [HFF.out]
              refine ⟨HA.out.turn, (q.map fun x => (⟨x.block, x.off + 3, none⟩ : Addr)), cq - 3, ?_, HA.out.pb, ?_⟩
              · rw [show r.length = m - 3 by have := HML.out; omega]
                rfl
              · rw [show r.length = m - 3 by have := HML.out; omega]
                exact HRD.out
    · have hA : rdAll s = .error 6 := by simp [rdAll, hr, hcs]
      rw [hA] at hF
      rw [hF]
      have q0 : ((c : Int) != (s.size : Int)) = true := by rw [bne_iff_ne]; omega
      have HC := Lib.hid HC
      clear hr hF hA hb hp hx hcs
      go_enter Tryd.func71, Tryd.ntmps71
      go_wp2_with fail
      refine HC.out.mono ?_
      rintro e w1 ⟨hb1, u, rfl, hO⟩
      have HB1 := Lib.hid hb1
      clear hb1 hO
      simp only [Nat.zero_add]
      go_wp2_with fail
      go_ret2
      exact ⟨Turn.of_below HB1.out _, rfl⟩
end Go.Proofs.YtbeooeihedhabaaDoor
