/- cavalcaderef09.Disk in memory: its cells, its row of files; New, Down, one, at: what the calls do. -/
import Derived.Test.YtopdhefhagckoaaDkAt
import Derived.Test.YtopdhefhagckoaaDWord
import Derived.Test.YtopdhefhagckoaaRd
import Derived.BigQuiet
import Derived.WalkMore
namespace Go.Proofs.Ytopdhefhagckoaa
open Go.RowKit
set_option maxHeartbeats 2000000
set_option maxRecDepth 4000
def fcl (f : FE) : List Value := [.string (bstr f.nm), .string f.b, .int .i64 (f.safe : Int)]
def fcls (l : List FE) : List Value := l.flatMap fcl
theorem fcls_length : ∀ l : List FE, (fcls l).length = l.length * 3
  | [] => rfl
  | f :: l => by
    show (fcl f ++ fcls l).length = _
    rw [List.length_append, fcls_length l, List.length_cons]
    show 3 + _ = _
    omega
theorem fcls_append (a b : List FE) : fcls (a ++ b) = fcls a ++ fcls b := List.flatMap_append ..
theorem fcls_one (f : FE) : fcls [f] = fcl f := by simp [fcls]
theorem fcls_at : ∀ (l : List FE) (i j : Nat) (u : Value) (hi : i < l.length), (fcl (l[i]'hi))[j]? = some u → (fcls l)[i * 3 + j]? = some u
  | f :: l, 0, j, u, _, h => by
    show (fcl f ++ fcls l)[0 * 3 + j]? = some u
    have hj : j < (fcl f).length := by
      rcases Nat.lt_or_ge j (fcl f).length with h1 | h1
      · exact h1
      · rw [show (fcl ((f :: l)[0]))[j]? = (fcl f)[j]? from rfl, List.getElem?_eq_none h1] at h; cases h
    rw [List.getElem?_append_left (by omega), Nat.zero_mul, Nat.zero_add]
    exact h
  | f :: l, i + 1, j, u, hi, h => by
    show (fcl f ++ fcls l)[(i + 1) * 3 + j]? = some u
    have h3 : (fcl f).length = 3 := rfl
    rw [List.getElem?_append_right (by omega), show (i + 1) * 3 + j - (fcl f).length = i * 3 + j by omega]
    exact fcls_at l i j u (by simpa using hi) h
def leftI : Option Nat → Int
  | none => -1
  | some k => k
structure XAt (N : Nat) (W : World) (bx : Nat) (v : Value) (d : DS) : Prop where
  x : W.heap[bx]? = some (.cells #[v, .int .i64 (leftI d.left)] 64 (0, 0))
  own : W.ownsRow N 66 3 v d.fs.length (fcls d.fs)
  ap : v.ownBlock ≠ some bx
  lo : N ≤ bx
  wf : d.wf
  lf : ∀ k, d.left = some k → k ≤ 9223372036854775807
/-- what is a reference's -/
def Xs (bx : Nat) (v : Value) : Nat → Prop := fun k => k = bx ∨ v.ownBlock = some k
def OwnNewX (w : World) (v v' : Value) : Prop := ∀ k, v'.ownBlock = some k → v.ownBlock = some k ∨ w.heap.size ≤ k
/-- what a call leaves -/
def XTo (N : Nat) (W W' : World) (bx : Nat) (v : Value) (d' : DS) : Prop := ∃ v', XAt N W' bx v' d' ∧ OwnNewX W v v' ∧ Turn W W' (Xs bx v)
section
variable {N : Nat} {W W' : World} {bx : Nat} {v : Value} {d : DS}
theorem XAt.lt (h : XAt N W bx v d) {k : Nat} (hk : Xs bx v k) : k < W.heap.size := by
  rcases hk with rfl | hk
  · exact block_lt h.x
  · exact (h.own.lt k hk).2
theorem XAt.ge (h : XAt N W bx v d) {k : Nat} (hk : Xs bx v k) : N ≤ k := by
  rcases hk with rfl | hk
  · exact h.lo
  · exact own_blk h.own k hk
theorem XAt.kept (h : XAt N W bx v d) {T : Nat → Prop} (hT : Turn W W' T) (hS : ∀ k, Xs bx v k → ¬ T k) : XAt N W' bx v d :=
  ⟨(hT.block bx (h.lt (.inl rfl)) (hS bx (.inl rfl))).trans h.x, own_other h.own fun k hk => hT.block k (h.lt (.inr hk)) (hS k (.inr hk)), h.ap, h.lo, h.wf, h.lf⟩
theorem XAt.next (h : XAt N W bx v d) (hb : Below W.heap.size W W') : XAt N W' bx v d := h.kept (T := fun _ => False) (Turn.of_below hb _) fun _ _ h => h
theorem XTo.same (h : XAt N W bx v d) : XTo N W W bx v d := ⟨v, h, fun _ hk => .inl hk, Turn.refl _ _⟩
theorem XAt.c0 (h : XAt N W bx v d) : W.cell? ⟨bx, 0, none⟩ = some v := by
  rw [cell_of_row W bx 0 _ _ _ h.x]; rfl
theorem XAt.c1 (h : XAt N W bx v d) : W.cell? ⟨bx, 1, none⟩ = some (.int .i64 (leftI d.left)) := by
  rw [cell_of_row W bx 1 _ _ _ h.x]; rfl
/-- its row: nil, or a block that is not the struct's -/
theorem XAt.row (h : XAt N W bx v d) : ∃ q c, v = .slice q d.fs.length c ∧ ∀ (i : Nat) (hi : i < d.fs.length), ∃ g, q = some ⟨g, 0, none⟩ ∧ g ≠ bx ∧ g < W.heap.size ∧ N ≤ g ∧ ∀ j u, (fcl (d.fs[i]'hi))[j]? = some u → W.cell? ⟨g, i * 3 + j, none⟩ = some u := by
  rcases h.own.2 with ⟨hv, hn⟩ | ⟨g, cap, cur, hv, hbase, hg, _, _, _, ht⟩
  · exact ⟨none, 0, by rw [hn]; exact hv, fun i hi => by omega⟩
  · refine ⟨_, cap, hv, fun i hi => ⟨g, rfl, fun e => h.ap (by rw [hv]; exact congrArg some e), block_lt hg, hbase, fun j u hu => ?_⟩⟩
    have h1 := fcls_at d.fs i j u hi hu
    rw [cell_of_row W g _ cur _ _ hg]
    have hlt : i * 3 + j < d.fs.length * 3 := by
      rcases Nat.lt_or_ge (i * 3 + j) (fcls d.fs).length with h2 | h2
      · rw [fcls_length] at h2; exact h2
      · rw [List.getElem?_eq_none h2] at h1; cases h1
    rw [← ht, List.getElem?_take_of_lt hlt] at h1
    rw [← Array.getElem?_toList]
    exact h1
end
theorem xdown_any {N : Nat} {bx : Nat} {v : Value} {d : DS} (W : World) (h : XAt N W bx v d) :
    Calls Try.prog 20 #[.pointer (some ⟨bx, 0, none⟩)] W fun e w' => e = .returned (.bool d.down) ∧ w' = W := by
  have k1 := h.c1
  obtain ⟨z, hz⟩ : ∃ z, leftI d.left = z := ⟨_, rfl⟩
  rw [hz] at k1
  have hd : (z == 0) = d.down := by
    rw [← hz]
    unfold DS.down
    cases d.left with
    | none => rfl
    | some k =>
      show ((k : Int) == 0) = decide (some k = some 0)
      by_cases hk : k = 0
      · subst hk; rfl
      · rw [decide_eq_false (by simpa using hk)]
        simp; omega
  obtain ⟨r, hr⟩ : ∃ r, r = d.down := ⟨_, rfl⟩
  rw [← hr] at hd ⊢
  clear h hz hr
  go_enter Try.func20, Try.ntmps20
  go_wp2_with fail
  go_ret
  exact ⟨rfl, rfl⟩
/-- an operation is done -/
theorem xone_any {N : Nat} {bx : Nat} {v : Value} {d : DS} (W : World) (h : XAt N W bx v d) (hl : d.left ≠ some 0) :
    Calls Try.prog 41 #[.pointer (some ⟨bx, 0, none⟩)] W fun e w' => e = .returned (.int .i64 0) ∧ XAt N w' bx v (d.did d.fs) ∧ Turn W w' (fun k => k = bx) := by
  have k1 := h.c1
  have hx := h.x
  cases hd : d.left with
  | none =>
    rw [hd] at k1
    have k1' : W.cell? ⟨bx, 1, none⟩ = some (.int .i64 (-1)) := k1
    have he : d.did d.fs = d := by cases d; simp [DS.did] at hd ⊢; rw [hd]; rfl
    rw [he]
    have H := Lib.hid h
    clear h hl k1 hx hd he
    go_enter Try.func41, Try.ntmps41
    go_wp2_with fail
    go_ret
    exact ⟨rfl, H.out, Turn.refl _ _⟩
  | some k =>
    have hk0 : 0 < k := by
      rcases Nat.eq_zero_or_pos k with rfl | hk
      · exact absurd hd hl
      · exact hk
    have hkm := h.lf k hd
    rw [hd] at k1
    have k1' : W.cell? ⟨bx, 1, none⟩ = some (.int .i64 (k : Int)) := k1
    have cz : W.frozen? ⟨bx, 1, none⟩ = false := frozen_of_row W bx 1 _ _ hx
    obtain ⟨m, hm⟩ : ∃ m : Nat, m = k - 1 := ⟨_, rfl⟩
    have e1 : IntKind.i64.wrap ((k : Int) - 1) = (m : Int) := by rw [IntWalk.i64_in _ (by omega)]; omega
    have d0 : decide (0 < (k : Int)) = true := decide_eq_true (by omega)
    have d0' : decide (0 < k) = true := decide_eq_true hk0
    have hrow := set_row (i := 1) (cs := [v, .int .i64 (leftI d.left)]) hx (.int .i64 (m : Int))
    have hT := Turn.set W bx 1 (.int .i64 (m : Int))
    have hX : XAt N (W.setCell ⟨bx, 1, none⟩ (.int .i64 (m : Int))) bx v (d.did d.fs) := by
      have hld : (d.did d.fs).left = some m := by show d.left.map (fun k => k - 1) = _; rw [hd, hm]; rfl
      refine ⟨?_, own_other h.own fun j hj => hT.block j (h.lt (.inr hj)) (fun e => h.ap (by rw [← e]; exact hj)), h.ap, h.lo, ⟨h.wf.rising, h.wf.files, h.wf.few⟩, fun j hj => ?_⟩
      · rw [hld]; exact hrow
      · rw [hld] at hj; have := Option.some.inj hj; omega
    have HX := Lib.hid hX
    have HT := Lib.hid hT
    clear h hl k1 hx hd hrow hT hX hm
    go_enter Try.func41, Try.ntmps41
    go_wp2_with fail
    go_ret
    exact ⟨rfl, HX.out, HT.out⟩
/-- where a file is, or -1 -/
def AtIs (d : DS) (nm : List UInt8) (z : Int) : Prop := (z = -1 ∧ d.find nm = none) ∨ ∃ (i : Nat) (hi : i < d.fs.length), z = i ∧ d.find nm = some (d.fs[i]'hi)
theorem find_first {l : List FE} {nm : List UInt8} : ∀ {i : Nat} (hi : i < l.length), (∀ (j : Nat) (hj : j < l.length), j < i → (l[j]'hj).nm ≠ nm) → (l[i]'hi).nm = nm → findN FE.nm nm l = some (l[i]'hi) := by
  induction l with
  | nil => intro i hi; simp at hi
  | cons g l ih =>
    intro i hi h1 h2
    unfold findN
    cases i with
    | zero => exact List.find?_cons_of_pos (by simpa using h2)
    | succ i =>
      have hg := h1 0 (Nat.succ_pos _) (Nat.succ_pos _)
      rw [List.find?_cons_of_neg (by simpa using hg)]
      exact ih (i := i) (by simpa using hi) (fun j hj hlt => h1 (j + 1) (by simpa using hj) (by omega)) h2
theorem find_nowhere {l : List FE} {nm : List UInt8} (h : ∀ (j : Nat) (hj : j < l.length), (l[j]'hj).nm ≠ nm) : findN FE.nm nm l = none := by
  refine List.find?_eq_none.2 fun f hf => ?_
  obtain ⟨j, hj, rfl⟩ := List.mem_iff_getElem.1 hf
  simpa using h j hj
theorem xat_any {N : Nat} {bx : Nat} {v : Value} {d : DS} (W : World) (h : XAt N W bx v d) (s : ByteArray) :
    Calls Try.prog 37 #[.pointer (some ⟨bx, 0, none⟩), .string s] W fun e w' => w' = W ∧ ∃ z : Int, e = .returned (.int .i64 z) ∧ AtIs d s.data.toList z := by
  obtain ⟨q, c, rfl, hr⟩ := h.row
  have k0 := h.c0
  have HR := Lib.hid hr
  have hn8 : d.fs.length ≤ 8 := h.wf.few
  have HWF := Lib.hid h.wf
  obtain ⟨n, hn⟩ : ∃ n, n = d.fs.length := ⟨_, rfl⟩
  rw [← hn] at k0 hn8
  have HN := Lib.hid hn
  clear h hr hn
  go_enter Try.func37, Try.ntmps37
  go_wp2_with fail
  go_loopw [5] (fun i_ wr => ∃ i : Nat, i_ = .int .i64 i ∧ i ≤ n ∧ Hid (∀ (j : Nat) (hj : j < d.fs.length), j < i → (d.fs[j]'hj).nm ≠ s.data.toList) ∧ wr = W) (fun i_ _ => match i_ with | .int _ j => n - j.toNat | _ => 0)
  case atStart => exact ⟨0, rfl, Nat.zero_le _, (show ∀ j hj, _ from fun j hj h => absurd h (Nat.not_lt_zero j)), rfl⟩
  case round =>
    obtain ⟨i, rfl, hin, HE, rfl⟩ := hrel
    by_cases hlt : i < n
    · have hil : i < d.fs.length := by have := HN.out; omega
      obtain ⟨g, hg, hgb, hgl, hgN, hc⟩ := HR.out i hil
      subst hg
      have kn : wr.cell? ⟨g, i * 3, none⟩ = some (.string (bstr (d.fs[i]'hil).nm)) := hc 0 _ rfl
      obtain ⟨nm, hnm⟩ : ∃ x, x = (d.fs[i]'hil).nm := ⟨_, rfl⟩
      rw [← hnm] at kn
      have f0 : (0 : Int) ≤ i := by omega
      have f1 : (i : Int) < n := by omega
      have HNM := Lib.hid hnm
      clear hc hnm hgb hgl hgN
      by_cases heq : nm = s.data.toList
      · have hb : ((bstr nm).toList == s.toList) = true := by rw [ByteArray.toList_eq, ByteArray.toList_eq, bstr_toList, heq]; exact beq_self_eq_true _
        have HF : Hid (AtIs d s.data.toList (i : Int)) := show AtIs _ _ _ from .inr ⟨i, hil, rfl, find_first hil HE.out (by rw [← HNM.out]; exact heq)⟩
        clear heq
        go_wp2_with fail
        go_ret
        exact ⟨rfl, _, rfl, HF.out⟩
      · have hb : ((bstr nm).toList == s.toList) = false := by rw [ByteArray.toList_eq, ByteArray.toList_eq, bstr_toList]; exact beq_false_of_ne heq
        have HE2 : Hid (∀ (j : Nat) (hj : j < d.fs.length), j < i + 1 → (d.fs[j]'hj).nm ≠ s.data.toList) := show ∀ j hj, _ from fun j hj h => by
          rcases Nat.lt_succ_iff_lt_or_eq.1 h with h | rfl
          · exact HE.out j hj h
          · rw [← HNM.out]; exact heq
        clear heq
        go_wp2_with fail
        go_roundw
        case rel => exact ⟨i + 1, by go_num, by omega, HE2, trivial⟩
        case measure => simp; omega
    · have hie : i = n := by omega
      subst hie
      have d0 : decide ((i : Int) < i) = false := decide_eq_false (by omega)
      have HF : Hid (AtIs d s.data.toList (-1)) := show AtIs _ _ _ from .inl ⟨rfl, find_nowhere fun j hj => HE.out j hj (by have := HN.out; omega)⟩
      go_wp2_with fail
      go_ret
      exact ⟨rfl, _, rfl, HF.out⟩
/-- a name, or none -/
theorem xword_any (s : ByteArray) (W : World) (hs : s.size ≤ 140737488355328) : Calls Try.prog 39 #[.string s] W fun e w' => e = .returned (.bool (isWord s.data.toList)) ∧ w' = W := by
  obtain ⟨r, hr⟩ : ∃ r, r = isWord s.data.toList := ⟨_, rfl⟩
  rw [← hr]
  have HR := Lib.hid hr
  clear hr
  go_enter Try.func39, Try.ntmps39
  go_wp2_with fail
  go_loopg [3] s.size (fun gk i_ wr => ∃ a : Nat, a + gk = s.size ∧ i_ = .int .i64 a ∧ Hid (∀ (i : Nat) (hi : i < s.size), i < a → letter (s[i]'hi) = true) ∧ wr = W)
  case atStart => exact ⟨0, by omega, rfl, (show ∀ (i : Nat) (hi : i < s.size), i < 0 → _ from fun i _ h => absurd h (Nat.not_lt_zero i)), rfl⟩
  case round =>
    obtain ⟨a, hag, rfl, HL, rfl⟩ := hrel
    generalize gk = go at *
    by_cases hlt : a < s.size
    · have f0 : (0 : Int) ≤ a := by omega
      have f1 : (a : Int) < s.size := by omega
      have f2 : decide ((a : Int) < s.size) = true := decide_eq_true f1
      have e1 : IntKind.i64.wrap ((a : Int) + 1) = ((a + 1 : Nat) : Int) := by rw [IntWalk.i64_in _ (by omega)]; omega
      have hcb := UInt8.toNat_lt (s[a]'hlt)
      by_cases b1 : 97 ≤ (s[a]'hlt).toNat
      · have d1 : decide (97 ≤ ((s[a]'hlt).toNat : Int)) = true := decide_eq_true (by omega)
        by_cases b2 : (s[a]'hlt).toNat ≤ 122
        · have d2 : decide (((s[a]'hlt).toNat : Int) ≤ 122) = true := decide_eq_true (by omega)
          have d3 : decide (48 ≤ ((s[a]'hlt).toNat : Int)) = true := decide_eq_true (by omega)
          have d4 : decide (((s[a]'hlt).toNat : Int) ≤ 57) = false := decide_eq_false (by omega)
          have HY : Hid (letter (s[a]'hlt) = true) := show _ = _ from by rw [letter_byte, d1, d2]; rfl
          go_wp2_with fail
          go_roundg (go - 1)
          case measure => omega
          case rel => exact ⟨a + 1, by omega, by go_num, show ∀ i, _ from fun i hi h => (Nat.lt_succ_iff_lt_or_eq.1 h).elim (HL.out i hi) (fun h => by subst h; exact HY.out), rfl⟩
        · have d2 : decide (((s[a]'hlt).toNat : Int) ≤ 122) = false := decide_eq_false (by omega)
          have d3 : decide (48 ≤ ((s[a]'hlt).toNat : Int)) = true := decide_eq_true (by omega)
          have d4 : decide (((s[a]'hlt).toNat : Int) ≤ 57) = false := decide_eq_false (by omega)
          have d5 : (((s[a]'hlt).toNat : Int) != 46) = true := by rw [bne_iff_ne]; omega
          have d5' : decide (((s[a]'hlt).toNat : Int) = 46) = false := decide_eq_false (by omega)
          have HF : Hid (r = false) := show _ = _ from by rw [HR.out]; exact word_no hlt (by rw [letter_byte, d1, d2, d3, d4, d5']; rfl)
          go_wp2_with fail
          go_ret
          exact ⟨(by rw [HF.out]; first | done | rfl), rfl⟩
      · have d1 : decide (97 ≤ ((s[a]'hlt).toNat : Int)) = false := decide_eq_false (by omega)
        by_cases b3 : 48 ≤ (s[a]'hlt).toNat
        · have d3 : decide (48 ≤ ((s[a]'hlt).toNat : Int)) = true := decide_eq_true (by omega)
          by_cases b4 : (s[a]'hlt).toNat ≤ 57
          · have d4 : decide (((s[a]'hlt).toNat : Int) ≤ 57) = true := decide_eq_true (by omega)
            have HY : Hid (letter (s[a]'hlt) = true) := show _ = _ from by rw [letter_byte, d1, d3, d4]; rfl
            go_wp2_with fail
            go_roundg (go - 1)
            case measure => omega
            case rel => exact ⟨a + 1, by omega, by go_num, show ∀ i, _ from fun i hi h => (Nat.lt_succ_iff_lt_or_eq.1 h).elim (HL.out i hi) (fun h => by subst h; exact HY.out), rfl⟩
          · have d4 : decide (((s[a]'hlt).toNat : Int) ≤ 57) = false := decide_eq_false (by omega)
            have d5 : (((s[a]'hlt).toNat : Int) != 46) = true := by rw [bne_iff_ne]; omega
            have d5' : decide (((s[a]'hlt).toNat : Int) = 46) = false := decide_eq_false (by omega)
            have HF : Hid (r = false) := show _ = _ from by rw [HR.out]; exact word_no hlt (by rw [letter_byte, d1, d3, d4, d5']; rfl)
            go_wp2_with fail
            go_ret
            exact ⟨(by rw [HF.out]; first | done | rfl), rfl⟩
        · have d3 : decide (48 ≤ ((s[a]'hlt).toNat : Int)) = false := decide_eq_false (by omega)
          by_cases b5 : (s[a]'hlt).toNat = 46
          · have d5 : (((s[a]'hlt).toNat : Int) != 46) = false := by rw [b5]; rfl
            have d5' : decide (((s[a]'hlt).toNat : Int) = 46) = true := decide_eq_true (by omega)
            have HY : Hid (letter (s[a]'hlt) = true) := show _ = _ from by rw [letter_byte, d1, d3, d5']; rfl
            clear b5
            go_wp2_with fail
            go_roundg (go - 1)
            case measure => omega
            case rel => exact ⟨a + 1, by omega, by go_num, show ∀ i, _ from fun i hi h => (Nat.lt_succ_iff_lt_or_eq.1 h).elim (HL.out i hi) (fun h => by subst h; exact HY.out), rfl⟩
          · have d5 : (((s[a]'hlt).toNat : Int) != 46) = true := by rw [bne_iff_ne]; omega
            have d5' : decide (((s[a]'hlt).toNat : Int) = 46) = false := decide_eq_false (by omega)
            have HF : Hid (r = false) := show _ = _ from by rw [HR.out]; exact word_no hlt (by rw [letter_byte, d1, d3, d5']; rfl)
            go_wp2_with fail
            go_ret
            exact ⟨(by rw [HF.out]; first | done | rfl), rfl⟩
    · have d0 : decide ((a : Int) < s.size) = false := decide_eq_false (by omega)
      by_cases h1 : 1 ≤ s.size
      · have d1 : decide (1 ≤ (s.size : Int)) = true := decide_eq_true (by omega)
        by_cases h2 : s.size ≤ 16
        · have d2 : decide ((s.size : Int) ≤ 16) = true := decide_eq_true (by omega)
          have HF : Hid (r = true) := show _ = _ from by rw [HR.out]; exact word_yes h1 h2 fun i hi => HL.out i hi (by omega)
          go_wp2_with fail
          go_ret
          exact ⟨(by rw [HF.out]; first | done | rfl), rfl⟩
        · have d2 : decide ((s.size : Int) ≤ 16) = false := decide_eq_false (by omega)
          have HF : Hid (r = false) := show _ = _ from by rw [HR.out]; exact word_size (.inr (by omega))
          go_wp2_with fail
          go_ret
          exact ⟨(by rw [HF.out]; first | done | rfl), rfl⟩
      · have d1 : decide (1 ≤ (s.size : Int)) = false := decide_eq_false (by omega)
        have HF : Hid (r = false) := show _ = _ from by rw [HR.out]; exact word_size (.inl (by omega))
        go_wp2_with fail
        go_ret
        exact ⟨(by rw [HF.out]; first | done | rfl), rfl⟩
/-- a new one -/
theorem xnew_any (N : Nat) (W : World) (hN : N ≤ W.heap.size) :
    Calls Try.prog 17 #[] W fun e w' => e = .returned (.pointer (some ⟨W.heap.size, 0, none⟩)) ∧ XAt N w' W.heap.size (.slice none 0 0) DS.new ∧ Below W.heap.size W w' := by
  have hr := heap_alloc_new W (.cells #[.slice none 0 0, .int .i64 (-1)] 64)
  have hX : XAt N (W.alloc (.cells #[.slice none 0 0, .int .i64 (-1)] 64)) W.heap.size (.slice none 0 0) DS.new := ⟨hr, own_nil _ _ _ _, (fun e => by cases e), hN, wf_new, fun k hk => by cases hk⟩
  have HX := Lib.hid hX
  have HB : Hid (Below W.heap.size W (W.alloc (.cells #[.slice none 0 0, .int .i64 (-1)] 64))) := show Below _ _ _ from bw_alloc (Below.refl _ _) _
  clear hX hr
  go_enter Try.func17, Try.ntmps17
  go_wp2_with fail
  go_ret
  exact ⟨rfl, HX.out, HB.out⟩
end Go.Proofs.Ytopdhefhagckoaa
