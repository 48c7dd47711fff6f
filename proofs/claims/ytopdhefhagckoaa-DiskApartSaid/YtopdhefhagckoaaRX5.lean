/- cavalcaderef09.Disk: Names, Crash: what the calls do. -/
import Derived.Test.YtopdhefhagckoaaRX4
import Derived.Test.YtopdhefhagckoaaDkCrash
import Derived.Lib.MinMax
import Derived.StillTailTactics
namespace Go.Proofs.Ytopdhefhagckoaa
open Go.RowKit Go.Maps Go.Sort
set_option maxHeartbeats 4000000
set_option maxRecDepth 4000
theorem xnames_any {N : Nat} {bx : Nat} {v : Value} {d : DS} (W : World) (h : XAt N W bx v d) :
    Calls Try.prog 22 #[.pointer (some ⟨bx, 0, none⟩)] W fun e w' => ∃ u, e = .returned u ∧ w'.ownsRow W.heap.size 9 1 u d.names.length (d.names.map encStr) ∧ Below W.heap.size W w' := by
  obtain ⟨i0, hi, hz0, hz1, hz2⟩ := info_parts infoStr
  have HX := Lib.hid h
  have HDW := Lib.hid (fun (wr : World) (hb : Below W.heap.size W wr) => xdown_any wr (h.next hb))
  obtain ⟨q, c, rfl, -⟩ := h.row
  have hn8 := h.wf.few
  obtain ⟨n, hn⟩ : ∃ n, n = d.fs.length := ⟨_, rfl⟩
  rw [← hn] at hn8 HX
  have HN := Lib.hid hn
  obtain ⟨r, hr⟩ : ∃ r, r = d.names := ⟨_, rfl⟩
  have hsp := hr
  unfold DS.names at hsp
  rw [← hr]
  clear h hn hr
  cases hd : d.down with
  | true =>
    rw [hd, if_pos rfl] at hsp
    rw [hd] at HDW
    subst hsp
    have HD0 := Lib.hid (HDW.out W (Below.refl _ _))
    have k0 := HX.out.c0
    clear hd
    by_cases hn0 : 0 < n
    · have d0 : decide ((0 : Int) < n) = true := decide_eq_true (by omega)
      have d0' : decide (0 < n) = true := decide_eq_true hn0
      go_enter Try.func22, Try.ntmps22
      go_wp2_with fail
      refine wp_loop_rounds 1 ?_
      rw [rounds_succ]
      go_wp2_with fail
      refine HD0.out.mono ?_
      rintro e w1 ⟨rfl, rfl⟩
      go_wp2_with fail
      go_ret
      exact ⟨_, rfl, own_nil _ _ _ _, Below.refl _ _⟩
    · have hn1 : n = 0 := by omega
      subst hn1
      go_enter Try.func22, Try.ntmps22
      go_wp2_with fail
      refine wp_loop_rounds 1 ?_
      rw [rounds_succ]
      go_wp2_with fail
      go_ret
      exact ⟨_, rfl, own_nil _ _ _ _, Below.refl _ _⟩
  | false =>
    rw [hd, if_neg (by decide)] at hsp
    rw [hd] at HDW
    have HR := Lib.hid hsp
    have hrl : r.length = n := by rw [hsp, List.length_map, HN.out]
    rw [hrl]
    clear hd hsp hrl
    go_enter Try.func22, Try.ntmps22
    go_wp2_with fail
    go_loopw [3, 4] (fun o_ i_ wr => ∃ i : Nat, i_ = .int .i64 i ∧ i ≤ n ∧ Hid (wr.ownsRow W.heap.size 9 1 o_ i ((r.take i).map encStr)) ∧ Hid (Below W.heap.size W wr)) (fun _ i_ _ => match i_ with | .int _ j => n - j.toNat | _ => 0)
    case atStart => exact ⟨0, rfl, Nat.zero_le _, own_nil _ _ _ _, Below.refl _ _⟩
    case round =>
      obtain ⟨i, rfl, hin, HO, HB⟩ := hrel
      have HXi := Lib.hid (HX.out.next HB.out)
      have HDi := Lib.hid (HDW.out wr HB.out)
      have k0 := HXi.out.c0
      by_cases hlt : i < n
      · have hil : i < d.fs.length := by have := HN.out; omega
        obtain ⟨gb, hg, hgb, hgl, hgN, hc⟩ := HXi.out.rowq i hil
        subst hg
        have kn : wr.cell? ⟨gb, i * 3, none⟩ = some (.string (bstr (d.fs[i]'hil).nm)) := hc 0 _ rfl
        obtain ⟨nm, hnm⟩ : ∃ x, x = (d.fs[i]'hil).nm := ⟨_, rfl⟩
        have HT : Hid (r.take (i + 1) = r.take i ++ [nm]) := show _ = _ from by
          rw [HR.out, List.take_succ_eq_append_getElem (by rw [List.length_map]; exact hil), List.getElem_map, hnm]
        rw [← hnm] at kn
        have f0 : (0 : Int) ≤ i := by omega
        have f1 : (i : Int) < n := by omega
        have f2 : decide ((i : Int) < n) = true := decide_eq_true f1
        clear hc hnm hgb hgl hgN
        go_wp2_with fail
        refine HDi.out.mono ?_
        rintro e w1 ⟨rfl, rfl⟩
        go_wp2_with (at_builtin; refine wpList_append_own _ rfl (.tmp 19) (.tmp 28) 29 rfl W.heap.size 9 i0 (.string ⟨#[]⟩) 1 16 Try.underlying29 hi hz0 hz1 hz2 rfl (by decide) _ _ _ rfl (HO.out.alloc _) ⟨w1.heap.size, 0, none⟩ 1 1 [.string (bstr nm)] rfl rfl (cell_one_new _ _ _) (by simp [Value.oneCell']) (by unfold maxLen; omega) (by omega) (by have := HB.out.size; simp; omega) ?_; intro v' w3 hown' hg3 hnil3; go_frame)
        go_roundw
        case rel =>
          refine ⟨i + 1, by go_num, by omega, ?_, ?_⟩
          · show World.ownsRow _ _ _ _ _ _ _
            rw [HT.out, List.map_append]
            exact hown'
          · show Below _ _ _
            exact ((HB.out.alloc HB.out.size _).grown hg3 (by have := HB.out.size; simp; omega) (fun j hj => own_blk HO.out j hj))
        case measure => simp; omega
      · have hie : i = n := by omega
        subst hie
        have d0 : decide ((i : Int) < i) = false := decide_eq_false (by omega)
        have ho := HO.out
        rw [List.take_of_length_le (by rw [HR.out, List.length_map, HN.out]; exact Nat.le_refl _)] at ho
        have HO2 := Lib.hid ho
        clear ho
        go_wp2_with fail
        go_ret
        exact ⟨_, rfl, HO2.out, HB.out⟩
/-- the first i files are torn -/
def tornF (i : Nat) (l : List FE) (ks : List Int) : List FE := l.mapIdx fun j f => if j < i then torn f (ks.getD j 0) else f
theorem tornF_length (i : Nat) (l : List FE) (ks : List Int) : (tornF i l ks).length = l.length := by simp [tornF]
theorem tornF_at (i : Nat) (l : List FE) (ks : List Int) {j : Nat} (hj : j < l.length) : (tornF i l ks)[j]'(by rw [tornF_length]; exact hj) = if j < i then torn (l[j]'hj) (ks.getD j 0) else l[j]'hj := by simp [tornF]
theorem tornF_zero (l : List FE) (ks : List Int) : tornF 0 l ks = l := by
  apply List.ext_getElem
  · exact tornF_length _ _ _
  · intro j h1 h2
    rw [tornF_at 0 l ks h2, if_neg (Nat.not_lt_zero _)]
theorem tornF_nm (i : Nat) (l : List FE) (ks : List Int) : (tornF i l ks).map FE.nm = l.map FE.nm := by
  apply List.ext_getElem
  · simp [tornF_length]
  · intro j h1 h2
    rw [List.getElem_map, List.getElem_map, tornF_at i l ks (by simpa using h2)]
    split <;> rfl
theorem tornF_all (l : List FE) (ks : List Int) : tornF l.length l ks = crashL l ks := by
  apply List.ext_getElem
  · rw [crashL_length, tornF_length]
  · intro j h1 h2
    have hj : j < l.length := by rw [tornF_length] at h1; exact h1
    rw [crashL_at l ks j hj, tornF_at l.length l ks hj, if_pos hj]
theorem tornF_set (l : List FE) (ks : List Int) {i : Nat} (hi : i < l.length) : (tornF i l ks).set i (torn (l[i]'hi) (ks.getD i 0)) = tornF (i + 1) l ks := by
  apply List.ext_getElem
  · simp [tornF_length]
  · intro j h1 h2
    have hj : j < l.length := by rw [tornF_length] at h2; exact h2
    rw [List.getElem_set, tornF_at (i + 1) l ks hj, tornF_at i l ks hj]
    by_cases hij : i = j
    · subst hij
      rw [if_pos rfl, if_pos (Nat.lt_succ_self _)]
    · rw [if_neg hij]
      by_cases hlt : j < i
      · rw [if_pos hlt, if_pos (Nat.lt_succ_of_lt hlt)]
      · rw [if_neg hlt, if_neg (fun h9 : j < i + 1 => hlt (by omega))]
theorem wf_tornF {d : DS} (h : d.wf) (i : Nat) (ks : List Int) : DS.wf { d with fs := tornF i d.fs ks } := by
  refine ⟨rising_of_nm (tornF_nm i d.fs ks).symm h.rising, fun f hf => ?_, by show (tornF i d.fs ks).length ≤ 8; rw [tornF_length]; exact h.few⟩
  obtain ⟨j, hj, rfl⟩ := List.mem_iff_getElem.1 hf
  have hj2 : j < d.fs.length := by have : (tornF i d.fs ks).length = _ := tornF_length i d.fs ks; simpa [this] using hj
  have := tornF_at i d.fs ks hj2
  rw [show ({ d with fs := tornF i d.fs ks } : DS).fs[j]'hj = _ from this]
  have hok := h.files _ (List.getElem_mem hj2)
  split
  · exact torn_ok hok _
  · exact hok
theorem fcls_set : ∀ (l : List FE) (i : Nat) (f : FE), i < l.length → fcls (l.set i f) = splice (fcls l) (i * 3) (fcl f)
  | g :: l, 0, f, _ => by
    show fcl f ++ fcls l = (fcl g ++ fcls l).take (0 * 3) ++ (fcl f ++ (fcl g ++ fcls l).drop (0 * 3 + (fcl f).length))
    have h1 : (fcl f).length = (fcl g).length := rfl
    rw [Nat.zero_mul, Nat.zero_add, List.take_zero, List.nil_append, h1, List.drop_left]
  | g :: l, i + 1, f, h => by
    have ih := fcls_set l i f (by simpa using h)
    show fcl g ++ fcls (l.set i f) = (fcl g ++ fcls l).take ((i + 1) * 3) ++ (fcl f ++ (fcl g ++ fcls l).drop ((i + 1) * 3 + (fcl f).length))
    have h3 : (fcl g).length = 3 := rfl
    rw [ih, List.take_append, List.drop_append, List.take_of_length_le (l := fcl g) (by omega), List.drop_of_length_le (l := fcl g) (by omega), List.nil_append, List.append_assoc, show (i + 1) * 3 - (fcl g).length = i * 3 by omega, show (i + 1) * 3 + (fcl f).length - (fcl g).length = i * 3 + (fcl f).length by omega]
    rfl
theorem XAt.blk {N : Nat} {W : World} {bx gb n c : Nat} {d : DS} (h : XAt N W bx (.slice (some ⟨gb, 0, none⟩) n c) d) : ∃ cur : List Value, W.heap[gb]? = some (.cells cur.toArray 66 (0, 0)) ∧ d.fs.length * 3 ≤ cur.length ∧ c ≤ maxLen ∧ d.fs.length ≤ c ∧ cur.length = c * 3 ∧ n = d.fs.length ∧ N ≤ gb ∧ cur.take (d.fs.length * 3) = fcls d.fs := by
  rcases h.own.2 with ⟨hv, _⟩ | ⟨g, cap, cur, hv, hbase, hg, h1, h2, h3, ht⟩
  · cases hv
  · injection hv with e1 e2 e3
    injection e1 with e1
    injection e1 with e1
    subst e1 e3
    have h4 : cur.toList.length = c * 3 := by rw [Array.length_toList]; exact h3
    exact ⟨cur.toList, hg, by rw [h4]; exact Nat.mul_le_mul_right 3 h1, h2, h1, h4, e2, hbase, ht⟩
/-- a file of its row is another -/
theorem XAt.seti {N : Nat} {W w' : World} {bx gb n c : Nat} {d : DS} (h : XAt N W bx (.slice (some ⟨gb, 0, none⟩) n c) d) {cur : List Value} (hg : W.heap[gb]? = some (.cells cur.toArray 66 (0, 0))) {i : Nat} (hi : i < d.fs.length) {f : FE} (hw : DS.wf { d with fs := d.fs.set i f })
    (hU : Upd W w' gb (.cells (splice cur (i * 3) (fcl f)).toArray 66 (0, 0))) : XAt N w' bx (.slice (some ⟨gb, 0, none⟩) n c) { d with fs := d.fs.set i f } := by
  obtain ⟨cur', hg', h1, h2, h3, h4, h5, h6, ht⟩ := h.blk
  rw [hg] at hg'
  injection hg' with hg'
  injection hg' with hg'
  obtain rfl : cur = cur' := by simpa using hg'
  have hne : bx ≠ gb := fun e => h.ap (by rw [e]; rfl)
  refine ⟨(hU.other bx hne).trans h.x, ⟨?_, .inr ⟨gb, c, (splice cur (i * 3) (fcl f)).toArray, ?_, h6, hU.at_, ?_, h2, ?_, ?_⟩⟩, h.ap, h.lo, hw, h.lf⟩
  · rw [fcls_length]
  · show Value.slice _ n c = Value.slice _ (d.fs.set i f).length c
    rw [List.length_set, h5]
  · show (d.fs.set i f).length ≤ c
    rw [List.length_set]; exact h3
  · have : (splice cur (i * 3) (fcl f)).length = cur.length := by
      unfold splice
      have h3' : (fcl f).length = 3 := rfl
      simp only [List.length_append, List.length_take, List.length_drop]
      omega
    simp only [List.size_toArray]
    omega
  · show ((splice cur (i * 3) (fcl f)).toArray.toList).take ((d.fs.set i f).length * 3) = fcls (d.fs.set i f)
    have h3' : (fcl f).length = 3 := rfl
    rw [fcls_set _ _ _ hi, List.length_set, ← ht]
    unfold splice
    rw [List.take_append, List.take_append, List.take_take, List.take_take, List.drop_take, List.length_take]
    rw [show min (d.fs.length * 3) (i * 3) = min (i * 3) (d.fs.length * 3) from Nat.min_comm _ _]
    congr 1
    rw [show min (i * 3) cur.length = i * 3 by omega, List.take_of_length_le (l := fcl f) (by omega)]
    congr 2
theorem xcrash_any {N : Nat} {bx : Nat} {v : Value} {d : DS} (W : World) (h : XAt N W bx v d) (kv : Value) (ks : List Int) (hk : RdIn W kv (ks.map fun k => .int .i64 k) (fun b => ¬ Xs bx v b)) :
    Calls Try.prog 36 #[.pointer (some ⟨bx, 0, none⟩), kv] W fun e w' => e = .returned (.tuple #[]) ∧ XTo N W w' bx v (d.crash ks) := by
  obtain ⟨m, hm⟩ : ∃ m, m = ks.length := ⟨_, rfl⟩
  have HM := Lib.hid hm
  obtain ⟨A, ck, rfl, hkr⟩ := hk
  have HK : Hid (RdIn W (.slice A m ck) (ks.map fun k => .int .i64 k) (fun b => ¬ Xs bx v b)) := show RdIn _ _ _ _ from ⟨A, ck, by rw [hm, List.length_map], hkr⟩
  have hlen : (ks.map fun k => Value.int .i64 k).length = m := by rw [List.length_map, hm]
  rw [hlen]
  obtain ⟨q, c, rfl, -⟩ := h.row
  have hn8 := h.wf.few
  obtain ⟨n, hn⟩ : ∃ n, n = d.fs.length := ⟨_, rfl⟩
  have HX0 : Hid (XAt N W bx (.slice q n c) { d with fs := tornF 0 d.fs ks }) := show XAt _ _ _ _ _ from by rw [tornF_zero, hn]; exact h
  have HX := Lib.hid h
  rw [← hn] at hn8 HX HK ⊢
  have HN := Lib.hid hn
  clear h hn hlen hkr hm
  go_enter Try.func36, Try.ntmps36
  go_wp2_with fail
  go_loopw [4] (fun i_ wr => ∃ i : Nat, i_ = .int .i64 i ∧ i ≤ n ∧ Hid (XAt N wr bx (.slice q n c) { d with fs := tornF i d.fs ks }) ∧ Hid (RdIn wr (.slice A m ck) (ks.map fun k => .int .i64 k) (fun b => ¬ Xs bx (.slice q n c) b)) ∧ Hid (Turn W wr (Xs bx (.slice q n c)))) (fun i_ _ => match i_ with | .int _ j => n - j.toNat | _ => 0)
  case atStart => exact ⟨0, rfl, Nat.zero_le _, HX0, HK, Turn.refl _ _⟩
  case round =>
    obtain ⟨i, rfl, hin, HXi, HKi, HTi⟩ := hrel
    have k0 := HXi.out.c0
    by_cases hlt : i < n
    · have hil : i < d.fs.length := by have := HN.out; omega
      have hti : i < (tornF i d.fs ks).length := by rw [tornF_length]; exact hil
      obtain ⟨gb, hg, -, -, -, hc⟩ := HXi.out.rowq i hti
      subst hg
      obtain ⟨g, hgg⟩ : ∃ g, g = d.fs[i]'hil := ⟨_, rfl⟩
      have hat : (tornF i d.fs ks)[i]'hti = g := by rw [tornF_at i d.fs ks hil, if_neg (Nat.lt_irrefl _), hgg]
      have hc' : ∀ j u, (fcl g)[j]? = some u → wr.cell? ⟨gb, i * 3 + j, none⟩ = some u := by rw [← hat]; exact hc
      have HRG : Hid (wr.rangeAt gb (i * 3) (fcl g)) := show World.rangeAt _ _ _ _ from hc'
      have hok : g.ok := by rw [hgg]; exact HX.out.wf.files _ (List.getElem_mem hil)
      obtain ⟨kv, hkv⟩ : ∃ k, k = ks.getD i 0 := ⟨_, rfl⟩
      obtain ⟨dl, hdl⟩ : ∃ d, d = g.b.size - g.safe := ⟨_, rfl⟩
      obtain ⟨kk, hkk⟩ : ∃ k, k = kept g kv := ⟨_, rfl⟩
      obtain ⟨s2, hs2⟩ : ∃ k, k = g.safe + kk := ⟨_, rfl⟩
      have b1 := hok.2.1
      have b2' := hok.2.2
      have hkk2 : kk = min kv.toNat dl := by rw [hkk, hdl]; rfl
      have HST : Hid (torn g kv = { g with b := g.b.extract 0 s2, safe := s2 }) := show _ = _ from by rw [hs2, hkk]; rfl
      have HSTEP : Hid ((tornF i d.fs ks).set i (torn g kv) = tornF (i + 1) d.fs ks) := show _ = _ from by rw [hkv, hgg]; exact tornF_set d.fs ks hil
      have HWF : Hid (DS.wf { d with fs := tornF (i + 1) d.fs ks }) := show _ from wf_tornF HX.out.wf _ _
      have e1 : IntKind.i64.wrap ((g.b.size : Int) - g.safe) = (dl : Int) := by rw [IntWalk.i64_in _ (by omega)]; omega
      have e3 : IntKind.i64.wrap ((g.safe : Int) + kk) = (s2 : Int) := by rw [IntWalk.i64_in _ (by omega)]; omega
      have f0 : (0 : Int) ≤ i := by omega
      have f1 : (i : Int) < n := by omega
      have f2 : (0 : Int) ≤ s2 := by omega
      have f3 : (s2 : Int) ≤ g.b.size := by omega
      have hz0 := heap_alloc_new wr (.cells zlF.toArray 66)
      clear hc hc' hat hgg hkk hdl
      by_cases hlk2 : i < m
      · have hki : i < ks.length := by have := HM.out; omega
        have d0 : decide ((i : Int) < m) = true := decide_eq_true (by omega)
        obtain ⟨A8, c8, e8, r8⟩ := HKi.out
        injection e8 with e81 e82 e83
        subst e81 e83
        obtain ⟨b3, o3, hA3, hb3, -, hc3⟩ := r8 i (by rw [List.length_map]; exact hki)
        subst hA3
        have hkc : wr.cell? ⟨b3, o3 + i, none⟩ = some (.int .i64 kv) := by
          rw [hc3, List.getElem_map, hkv]
          congr 2
          rw [List.getD_eq_getElem?_getD, List.getElem?_eq_getElem hki]
          rfl
        by_cases hpos : 0 < kv
        · have d1 : decide (0 < kv) = true := decide_eq_true hpos
          have e2 : min kv (dl : Int) = (kk : Int) := by omega
          clear r8 e82 hc3 hb3 hki hkv hkk2 hs2 hpos
          go_wp2_with (first
            | (with_reducible refine wpList_load_mid rfl 66 (.tmp 21) rfl gb (i * 3) rfl (fcl g) _ HRG.out Try.underlying66 rfl (file_info _) ?_)
            | ((with_reducible refine wpList_store_whole rfl 66 (.tmp 5) (.tmp 22) rfl wr.heap.size (fcl g) zlF 66 rfl rfl hz0 rfl (file_info g) (fcl_one g) ?_); intro w2 hU2; have hP2 := PfAt.up hU2.out (bw_alloc (Below.refl _ _) _) (Nat.le_refl _); have c0 := hP2.c (j := 0) rfl; have c1 := hP2.c (j := 1) rfl; have c2 := hP2.c (j := 2) rfl; have cz := hP2.fz 1; have cz2 := hP2.fz 2; have HP2 := Lib.hid hP2; have hkc2 : w2.cell? ⟨b3, o3 + i, none⟩ = some (.int .i64 kv) := (cell_of_heap (HP2.out.b.block b3 (rd_block_of_cell hkc)) _).trans hkc; clear hU2 hz0 hP2))
          go_quiet (fail)
          have HPQ := Lib.hid (HP2.out.next (bw_drewN (Below.refl _ _) nq))
          have HP5 := Lib.hid ((HPQ.out.set (i := 2) (u := .int .i64 (s2 : Int)) (f' := { g with safe := s2 }) rfl).set (i := 1) (u := .string (g.b.extract 0 s2)) (f' := { g with b := g.b.extract 0 s2, safe := s2 }) rfl)
          go_wp2_with fail
          generalize ((w2.drewN nq).setCell ⟨wr.heap.size, 2, none⟩ (.int .i64 (s2 : Int))).setCell ⟨wr.heap.size, 1, none⟩ (.string (g.b.extract 0 s2)) = w5 at *
          have hX5 := HXi.out.next HP5.out.b
          have k5 := hX5.c0
          have c50 := HP5.out.c (j := 0) rfl
          have c51 := HP5.out.c (j := 1) rfl
          have c52 := HP5.out.c (j := 2) rfl
          obtain ⟨cur, hcur, hcl, -, -, -, -, -, -⟩ := hX5.blk
          have hcl2 : i * 3 + 3 ≤ cur.length := by
            have : (tornF i d.fs ks).length * 3 ≤ cur.length := hcl
            rw [tornF_length] at this
            omega
          have HX5 := Lib.hid hX5
          have HK5 := Lib.hid (HKi.out.kept HP5.out.b.size fun b hb _ => HP5.out.b.block b hb)
          clear hX5 hcl
          have hcur' : w5.drew.heap[gb]? = some (.cells cur.toArray 66 (0, 0)) := hcur
          go_still_tail 6, (by kernel_rfl)
          go_wp2_with ((refine wpList_store_rows rfl 66 (.tmp 62) (.tmp 61) rfl gb (i * 3) (fcl { g with b := g.b.extract 0 s2, safe := s2 }) cur 66 rfl rfl hcur' hcl2 (file_info _) (fcl_one _) ?_); intro w6 hU6)
          have hX6 : XAt N w6 bx (.slice (some ⟨gb, 0, none⟩) n c) { d with fs := tornF (i + 1) d.fs ks } := by
            have h := (HX5.out.next (Below.refl _ _).drew).seti (i := i) (f := torn g kv) hcur' (by show i < (tornF i d.fs ks).length; rw [tornF_length]; exact hil) (by show DS.wf { d with fs := (tornF i d.fs ks).set i (torn g kv) }; rw [HSTEP.out]; exact HWF.out) (by rw [HST.out]; exact hU6.out)
            have h2 : XAt N w6 bx (.slice (some ⟨gb, 0, none⟩) n c) { d with fs := (tornF i d.fs ks).set i (torn g kv) } := h
            rw [HSTEP.out] at h2
            exact h2
          have hT6 : Turn wr w6 (Xs bx (.slice (some ⟨gb, 0, none⟩) n c)) := ((Turn.of_below (HP5.out.b.drew) (Xs bx (.slice (some ⟨gb, 0, none⟩) n c))).trans (⟨hU6.out.os, hU6.out.tape, hU6.out.output, by rw [hU6.out.size]; exact Nat.le_refl _, fun k _ hk => hU6.out.other k hk⟩ : Turn w5.drew w6 (fun k => k = gb)) fun k _ e => .inr (by rw [e]; rfl))
          have HX6 := Lib.hid hX6
          have HK6 := Lib.hid (HKi.out.turn hT6 fun b _ hb h => hb h)
          have HT6 := Lib.hid (HTi.out.trans hT6 fun b _ h => h)
          clear hX6 hT6 hU6 hcur hcur' hcl2
          go_roundw
          case rel => exact ⟨i + 1, by go_num, by omega, HX6, HK6, HT6⟩
          case measure => simp; omega
        · have d1 : decide (0 < kv) = false := decide_eq_false hpos
          have hk0 : kk = 0 := by omega
          have hs3 : s2 = g.safe := by rw [hs2, hk0]; rfl
          clear r8 e82 hc3 hb3 hki hkv hkk2 hs2 hpos e3 e1
          subst hs3
          clear hk0
          go_wp2_with (first
            | (with_reducible refine wpList_load_mid rfl 66 (.tmp 21) rfl gb (i * 3) rfl (fcl g) _ HRG.out Try.underlying66 rfl (file_info _) ?_)
            | ((with_reducible refine wpList_store_whole rfl 66 (.tmp 5) (.tmp 22) rfl wr.heap.size (fcl g) zlF 66 rfl rfl hz0 rfl (file_info g) (fcl_one g) ?_); intro w2 hU2; have hP2 := PfAt.up hU2.out (bw_alloc (Below.refl _ _) _) (Nat.le_refl _); have c0 := hP2.c (j := 0) rfl; have c1 := hP2.c (j := 1) rfl; have c2 := hP2.c (j := 2) rfl; have cz := hP2.fz 1; have cz2 := hP2.fz 2; have HP2 := Lib.hid hP2; have hkc2 : w2.cell? ⟨b3, o3 + i, none⟩ = some (.int .i64 kv) := (cell_of_heap (HP2.out.b.block b3 (rd_block_of_cell hkc)) _).trans hkc; clear hU2 hz0 hP2))
          have HP5 := Lib.hid ((HP2.out.set (i := 2) (u := .int .i64 (g.safe : Int)) (f' := { g with safe := g.safe }) rfl).set (i := 1) (u := .string (g.b.extract 0 g.safe)) (f' := { g with b := g.b.extract 0 g.safe, safe := g.safe }) rfl)
          skip
          generalize (w2.setCell ⟨wr.heap.size, 2, none⟩ (.int .i64 (g.safe : Int))).setCell ⟨wr.heap.size, 1, none⟩ (.string (g.b.extract 0 g.safe)) = w5 at *
          have hX5 := HXi.out.next HP5.out.b
          have k5 := hX5.c0
          have c50 := HP5.out.c (j := 0) rfl
          have c51 := HP5.out.c (j := 1) rfl
          have c52 := HP5.out.c (j := 2) rfl
          obtain ⟨cur, hcur, hcl, -, -, -, -, -, -⟩ := hX5.blk
          have hcl2 : i * 3 + 3 ≤ cur.length := by
            have : (tornF i d.fs ks).length * 3 ≤ cur.length := hcl
            rw [tornF_length] at this
            omega
          have HX5 := Lib.hid hX5
          have HK5 := Lib.hid (HKi.out.kept HP5.out.b.size fun b hb _ => HP5.out.b.block b hb)
          clear hX5 hcl
          have hcur' : w5.drew.heap[gb]? = some (.cells cur.toArray 66 (0, 0)) := hcur
          go_still_tail 6, (by kernel_rfl)
          go_wp2_with ((refine wpList_store_rows rfl 66 (.tmp 62) (.tmp 61) rfl gb (i * 3) (fcl { g with b := g.b.extract 0 g.safe, safe := g.safe }) cur 66 rfl rfl hcur' hcl2 (file_info _) (fcl_one _) ?_); intro w6 hU6)
          have hX6 : XAt N w6 bx (.slice (some ⟨gb, 0, none⟩) n c) { d with fs := tornF (i + 1) d.fs ks } := by
            have h := (HX5.out.next (Below.refl _ _).drew).seti (i := i) (f := torn g kv) hcur' (by show i < (tornF i d.fs ks).length; rw [tornF_length]; exact hil) (by show DS.wf { d with fs := (tornF i d.fs ks).set i (torn g kv) }; rw [HSTEP.out]; exact HWF.out) (by rw [HST.out]; exact hU6.out)
            have h2 : XAt N w6 bx (.slice (some ⟨gb, 0, none⟩) n c) { d with fs := (tornF i d.fs ks).set i (torn g kv) } := h
            rw [HSTEP.out] at h2
            exact h2
          have hT6 : Turn wr w6 (Xs bx (.slice (some ⟨gb, 0, none⟩) n c)) := ((Turn.of_below (HP5.out.b.drew) (Xs bx (.slice (some ⟨gb, 0, none⟩) n c))).trans (⟨hU6.out.os, hU6.out.tape, hU6.out.output, by rw [hU6.out.size]; exact Nat.le_refl _, fun k _ hk => hU6.out.other k hk⟩ : Turn w5.drew w6 (fun k => k = gb)) fun k _ e => .inr (by rw [e]; rfl))
          have HX6 := Lib.hid hX6
          have HK6 := Lib.hid (HKi.out.turn hT6 fun b _ hb h => hb h)
          have HT6 := Lib.hid (HTi.out.trans hT6 fun b _ h => h)
          clear hX6 hT6 hU6 hcur hcur' hcl2
          go_roundw
          case rel => exact ⟨i + 1, by go_num, by omega, HX6, HK6, HT6⟩
          case measure => simp; omega
      · have d0 : decide ((i : Int) < m) = false := decide_eq_false (by omega)
        have hk0 : kk = 0 := by
          rw [hkk2, hkv, List.getD_eq_getElem?_getD, List.getElem?_eq_none (by have := HM.out; omega)]
          simp
        have hs3 : s2 = g.safe := by rw [hs2, hk0]; rfl
        clear hkv hkk2 hs2 e3 e1
        subst hs3
        clear hk0
        go_wp2_with (first
          | (with_reducible refine wpList_load_mid rfl 66 (.tmp 21) rfl gb (i * 3) rfl (fcl g) _ HRG.out Try.underlying66 rfl (file_info _) ?_)
          | ((with_reducible refine wpList_store_whole rfl 66 (.tmp 5) (.tmp 22) rfl wr.heap.size (fcl g) zlF 66 rfl rfl hz0 rfl (file_info g) (fcl_one g) ?_); intro w2 hU2; have hP2 := PfAt.up hU2.out (bw_alloc (Below.refl _ _) _) (Nat.le_refl _); have c0 := hP2.c (j := 0) rfl; have c1 := hP2.c (j := 1) rfl; have c2 := hP2.c (j := 2) rfl; have cz := hP2.fz 1; have cz2 := hP2.fz 2; have HP2 := Lib.hid hP2; skip; clear hU2 hz0 hP2))
        have HP5 := Lib.hid ((HP2.out.set (i := 2) (u := .int .i64 (g.safe : Int)) (f' := { g with safe := g.safe }) rfl).set (i := 1) (u := .string (g.b.extract 0 g.safe)) (f' := { g with b := g.b.extract 0 g.safe, safe := g.safe }) rfl)
        skip
        generalize (w2.setCell ⟨wr.heap.size, 2, none⟩ (.int .i64 (g.safe : Int))).setCell ⟨wr.heap.size, 1, none⟩ (.string (g.b.extract 0 g.safe)) = w5 at *
        have hX5 := HXi.out.next HP5.out.b
        have k5 := hX5.c0
        have c50 := HP5.out.c (j := 0) rfl
        have c51 := HP5.out.c (j := 1) rfl
        have c52 := HP5.out.c (j := 2) rfl
        obtain ⟨cur, hcur, hcl, -, -, -, -, -, -⟩ := hX5.blk
        have hcl2 : i * 3 + 3 ≤ cur.length := by
          have : (tornF i d.fs ks).length * 3 ≤ cur.length := hcl
          rw [tornF_length] at this
          omega
        have HX5 := Lib.hid hX5
        have HK5 := Lib.hid (HKi.out.kept HP5.out.b.size fun b hb _ => HP5.out.b.block b hb)
        clear hX5 hcl
        have hcur' : w5.drew.heap[gb]? = some (.cells cur.toArray 66 (0, 0)) := hcur
        go_still_tail 6, (by kernel_rfl)
        go_wp2_with ((refine wpList_store_rows rfl 66 (.tmp 62) (.tmp 61) rfl gb (i * 3) (fcl { g with b := g.b.extract 0 g.safe, safe := g.safe }) cur 66 rfl rfl hcur' hcl2 (file_info _) (fcl_one _) ?_); intro w6 hU6)
        have hX6 : XAt N w6 bx (.slice (some ⟨gb, 0, none⟩) n c) { d with fs := tornF (i + 1) d.fs ks } := by
          have h := (HX5.out.next (Below.refl _ _).drew).seti (i := i) (f := torn g kv) hcur' (by show i < (tornF i d.fs ks).length; rw [tornF_length]; exact hil) (by show DS.wf { d with fs := (tornF i d.fs ks).set i (torn g kv) }; rw [HSTEP.out]; exact HWF.out) (by rw [HST.out]; exact hU6.out)
          have h2 : XAt N w6 bx (.slice (some ⟨gb, 0, none⟩) n c) { d with fs := (tornF i d.fs ks).set i (torn g kv) } := h
          rw [HSTEP.out] at h2
          exact h2
        have hT6 : Turn wr w6 (Xs bx (.slice (some ⟨gb, 0, none⟩) n c)) := ((Turn.of_below (HP5.out.b.drew) (Xs bx (.slice (some ⟨gb, 0, none⟩) n c))).trans (⟨hU6.out.os, hU6.out.tape, hU6.out.output, by rw [hU6.out.size]; exact Nat.le_refl _, fun k _ hk => hU6.out.other k hk⟩ : Turn w5.drew w6 (fun k => k = gb)) fun k _ e => .inr (by rw [e]; rfl))
        have HX6 := Lib.hid hX6
        have HK6 := Lib.hid (HKi.out.turn hT6 fun b _ hb h => hb h)
        have HT6 := Lib.hid (HTi.out.trans hT6 fun b _ h => h)
        clear hX6 hT6 hU6 hcur hcur' hcl2
        go_roundw
        case rel => exact ⟨i + 1, by go_num, by omega, HX6, HK6, HT6⟩
        case measure => simp; omega
    · have hie : i = n := by omega
      subst hie
      have d0 : decide ((i : Int) < i) = false := decide_eq_false (by omega)
      have cz : wr.frozen? ⟨bx, 1, none⟩ = false := frozen_of_row wr bx 1 _ _ HXi.out.x
      have k1 := HXi.out.c1
      have hT := Turn.set wr bx 1 (.int .i64 (-1))
      have HTO : Hid (XTo N W (wr.setCell ⟨bx, 1, none⟩ (.int .i64 (-1))) bx (.slice q i c) (d.crash ks)) := show XTo _ _ _ _ _ _ from by
        have h := HXi.out
        have he : tornF i d.fs ks = crashL d.fs ks := by rw [HN.out]; exact tornF_all _ _
        rw [he] at h
        refine ⟨_, ⟨set_row (i := 1) (cs := [.slice q i c, .int .i64 (leftI d.left)]) h.x (.int .i64 (-1)), own_other h.own fun j hj => hT.block j (h.lt (.inr hj)) (fun e => h.ap (by rw [← e]; exact hj)), h.ap, h.lo, wf_fs h.wf rfl, fun j hj => by cases hj⟩, fun k hk => .inl hk, HTi.out.trans hT fun k _ e => .inl e⟩
      clear hT
      go_wp2_with fail
      go_end0
      exact ⟨rfl, HTO.out⟩
end Go.Proofs.Ytopdhefhagckoaa
