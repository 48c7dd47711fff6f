/- notes.WriteBatch of a light batch: what the call does. -/
import Derived.Test.YtbeooeihedhabaaDoorBoxPure
import Derived.Test.YtbeooeihedhabaaDoorNNum
import Derived.Test.YtbeooeihedhabaaDoorRd
import Derived.Deep.LoopGhost
import Derived.OwnWalk
namespace Go.Proofs.YtbeooeihedhabaaDoor
open Go.RowKit
set_option maxHeartbeats 4000000
set_option maxRecDepth 4000
def BT.cells (b : BT) (v : Value) : List Value := [.int .i64 b.seq, .int .i64 b.first, .int .i64 b.before, v]
/-- a batch's slice of messages that can be read -/
def PtsAt (w : World) (v : Value) (l : List PT) : Prop := RdRows w v 2 (l.map PT.cells) (fun b => b < w.heap.size)
theorem PtsAt.below {w w' : World} {v : Value} {l : List PT} (h : PtsAt w v l) (hb : Below w.heap.size w w') : PtsAt w' v l :=
  (h.kept hb.size fun b hb' _ => hb.block b hb').mono fun _b h _ => h
theorem PtsAt.shape {w : World} {v : Value} {l : List PT} (h : PtsAt w v l) : ∃ q c, v = .slice q l.length c := by
  obtain ⟨A, c, rfl, -⟩ := h
  exact ⟨A, c, by rw [List.length_map]⟩
theorem str_info_b : (Tryd.prog.info? 9).map (fun i => (i.zero, i.size, i.bytes)) = some (some (.string ⟨#[]⟩), 1, 16) := by kernel_rfl
theorem news_two (W : World) (o : Obj) (v : Value) (t : TypeId) (hs : (W.alloc o).heap.size = W.heap.size + 1) : ∀ j u, [v][j]? = some u → ((W.alloc o).alloc (.cells #[v] t)).cell? ((⟨W.heap.size + 1, 0, none⟩ : Addr).add j) = some u := fun j u hj => by
  have hadd : (⟨W.heap.size + 1, 0, none⟩ : Addr).add j = ⟨W.heap.size + 1, j, none⟩ := by unfold Addr.add; split <;> simp_all
  have h := heap_alloc_new (W.alloc o) (.cells #[v] t)
  rw [hs] at h
  rw [hadd, cell_of_row _ _ _ _ _ _ h]
  simpa using hj
theorem empty_is (s : ByteArray) : s.toList.isEmpty = decide (s.size = 0) := by
  rw [ByteArray.toList_eq]
  have h : s.data.toList.length = s.size := rfl
  cases hl : s.data.toList with
  | nil => rw [hl] at h; rw [decide_eq_true (by simpa using h.symm)]; rfl
  | cons a l => rw [hl, List.length_cons] at h; rw [decide_eq_false (by omega)]; rfl
theorem wbatch_any (b : BT) (v : Value) (w : World) (hv : PtsAt w v b.parts) (hl : weigh b.parts ≤ 600) :
    Calls Tryd.prog 27 #[.agg (b.cells v).toArray] w fun e w' => e = .returned (.tuple #[.string b.wr.1, .int .i64 b.wr.2]) ∧ Below w.heap.size w w' := by
  obtain ⟨i0, hi, hz0, hz1, hz2⟩ := info_parts str_info_b
  have HV := Lib.hid hv
  have HL := Lib.hid hl
  have hln := weigh_len b.parts
  obtain ⟨q, c, rfl⟩ := hv.shape
  obtain ⟨n, hn⟩ : ∃ n, n = b.parts.length := ⟨_, rfl⟩
  rw [← hn] at HV hln ⊢
  have HN := Lib.hid hn
  have hn3 : n ≤ 300 := by omega
  obtain ⟨r, hr⟩ : ∃ r, r = b.wr := ⟨_, rfl⟩
  have hsp := hr
  unfold BT.wr at hsp
  rw [← hr]
  have HSP := Lib.hid hsp
  obtain ⟨sq, fs, bf, ps⟩ := b
  dsimp only at HV HL HN HSP
  show Calls Tryd.prog 27 #[.agg #[.int .i64 sq, .int .i64 fs, .int .i64 bf, .slice q n c]] w _
  have HB0 : Hid (Below w.heap.size w (w.alloc (.cells #[.int .i64 sq, .int .i64 fs, .int .i64 bf, .slice q n c] 24))) := show Below _ _ _ from bw_alloc (Below.refl _ _) _
  have hp0 := heap_alloc_new w (.cells #[.int .i64 sq, .int .i64 fs, .int .i64 bf, .slice q n c] 24)
  have HP0 := Lib.hid hp0
  have HSZ : Hid ((w.alloc (.cells #[.int .i64 sq, .int .i64 fs, .int .i64 bf, .slice q n c] 24)).heap.size = w.heap.size + 1) := show _ = _ from by simp
  clear hv hl hln hn hr hsp hp0
  obtain ⟨g, hg⟩ : ∃ g, g = (BT.mk sq fs bf ps).ok := ⟨_, rfl⟩
  have hall : [sq, fs, bf].all numOk = g := by rw [hg]; simp [BT.ok, Bool.and_assoc]
  have HG := Lib.hid hg
  have HALL := Lib.hid hall
  clear hg hall
  go_enter Tryd.func27, Tryd.ntmps27
  go_wp2_with fail
  generalize w.alloc (.cells #[.int .i64 sq, .int .i64 fs, .int .i64 bf, .slice q n c] 24) = w1 at *
  have hN1 : (w1.alloc (.cells (i64s [sq, fs, bf]).toArray 3)).heap[w.heap.size + 1]? = some (.cells (i64s [sq, fs, bf]).toArray 3 (0, 0)) := by rw [← HSZ.out]; exact heap_alloc_new w1 _
  refine (nnum_any [sq, fs, bf] _ (w.heap.size + 1) hN1 (show 3 ≤ 16 by decide)).mono ?_
  rintro e w2 ⟨rfl, hw2⟩
  have hb2 : Below w1.heap.size w1 w2 := by rw [hw2]; exact bw_alloc (Below.refl _ _) _
  have HP2 := Lib.hid ((hb2.block _ (block_lt HP0.out)).trans HP0.out)
  have HB2 : Hid (Below w.heap.size w w2) := show Below _ _ _ from HB0.out.trans (hb2.mono HB0.out.size)
  subst hw2
  rw [HALL.out]
  generalize w1.alloc (.cells (i64s [sq, fs, bf]).toArray 3) = w2 at *
  have c0 : w2.cell? ⟨w.heap.size, 0, none⟩ = some (.int .i64 sq) := by rw [cell_of_row _ _ _ _ _ _ HP2.out]; rfl
  have c1 : w2.cell? ⟨w.heap.size, 1, none⟩ = some (.int .i64 fs) := by rw [cell_of_row _ _ _ _ _ _ HP2.out]; rfl
  have c2 : w2.cell? ⟨w.heap.size, 2, none⟩ = some (.int .i64 bf) := by rw [cell_of_row _ _ _ _ _ _ HP2.out]; rfl
  have c3 : w2.cell? ⟨w.heap.size, 3, none⟩ = some (.slice q n c) := by rw [cell_of_row _ _ _ _ _ _ HP2.out]; rfl
  clear hN1 hb2
  cases g with
  | false =>
    have HR : Hid (r = (⟨#[]⟩, 2)) := show _ = _ from by rw [HSP.out, ← HG.out, if_neg (by decide)]
    go_wp2_with fail
    go_ret2
    rw [HR.out]
    exact ⟨rfl, HB2.out⟩
  | true =>
    have hok := HG.out.symm
    simp only [BT.ok, Bool.and_eq_true] at hok
    have j1 := okN_iff.1 hok.1.1
    have j2 := okN_iff.1 hok.1.2
    have j3 := okN_iff.1 hok.2
    have HR : Hid (r = match txts ps with | some ts => (bstr (encList ((BT.mk sq fs bf ps).lay ts)), 0) | none => (⟨#[]⟩, 2)) := show _ = _ from by rw [HSP.out, ← HG.out, if_pos rfl]; rfl
    have HLAY : Hid (∀ W bn, W.heap[bn]? = some (.cells #[.int .i64 sq, .int .i64 fs, .int .i64 bf] 3 (0, 0)) → Calls Tryd.prog 58 #[.slice (some ⟨bn, 0, none⟩) 3 3] W fun e w' => (∃ v, e = .returned v ∧ w'.ownsRow W.heap.size 9 1 v 3 (strs (nums3 (BT.mk sq fs bf ps)))) ∧ Below W.heap.size W w') := show ∀ W bn, _ from fun W bn h => by
      refine lay_any [sq.toNat, fs.toNat, bf.toNat] W bn (fun k hk => ?_) (show 3 ≤ 16 by decide) ?_
      · match k, hk with
        | 0, _ => show sq.toNat ≤ _; omega
        | 1, _ => show fs.toNat ≤ _; omega
        | 2, _ => show bf.toNat ≤ _; omega
      · rw [h]
        show some (Obj.cells #[Value.int .i64 sq, .int .i64 fs, .int .i64 bf] 3 (0, 0)) = some (Obj.cells #[Value.int .i64 (sq.toNat : Int), .int .i64 (fs.toNat : Int), .int .i64 (bf.toNat : Int)] 3 (0, 0))
        rw [Int.toNat_of_nonneg j1.1, Int.toNat_of_nonneg j2.1, Int.toNat_of_nonneg j3.1]
    have d0 : decide ((512 : Int) < n) = false := decide_eq_false (by omega)
    have d0' : decide (512 < n) = false := decide_eq_false (by omega)
    have HSM := Lib.hid (fun ts (h : txts ps = some ts) => lay_small (b := BT.mk sq fs bf ps) HG.out.symm h HL.out)
    clear hok j1 j2 j3
    go_wp2_with fail
    refine (HLAY.out _ _ (heap_alloc_new w2 _)).mono ?_
    rintro e w3 ⟨⟨u, rfl, hO⟩, hb3⟩
    have hb3' : Below w2.heap.size w2 w3 := (bw_alloc (Below.refl _ _) _).trans (hb3.mono (by simp))
    have HB3 : Hid (Below w.heap.size w w3) := show Below _ _ _ from HB2.out.trans (hb3'.mono HB2.out.size)
    have c3 : w3.cell? ⟨w.heap.size, 3, none⟩ = some (.slice q n c) := by rw [cell_of_row _ _ _ _ _ _ ((hb3'.block _ (block_lt HP2.out)).trans HP2.out)]; rfl
    obtain ⟨B, hB⟩ : ∃ B, B = (w2.alloc (.cells #[.int .i64 sq, .int .i64 fs, .int .i64 bf] 3)).heap.size := ⟨_, rfl⟩
    have HBB : Hid (w.heap.size ≤ B ∧ B ≤ w3.heap.size ∧ 0 < B) := show _ ∧ _ from ⟨by rw [hB]; exact Nat.le_trans HB2.out.size (by simp), by rw [hB]; exact hb3.size, by rw [hB]; simp⟩
    rw [← hB] at hO
    have HO3 := Lib.hid hO
    clear hO hb3 hb3' hB c0 c1 c2
    go_wp2_with fail
    go_loopw [4, 33] (fun l_ i_ wr => ∃ (j : Nat) (ts : List ByteArray), i_ = .int .i64 j ∧ j ≤ n ∧ Hid (ts.length = j) ∧ Hid (txts (ps.take j) = some ts) ∧ Hid (wr.ownsRow B 9 1 l_ (3 + j) (strs (nums3 (BT.mk sq fs bf ps) ++ ts))) ∧ Hid (Below w.heap.size w wr) ∧ B ≤ wr.heap.size) (fun _ i_ _ => match i_ with | .int _ k => n - k.toNat | _ => 0)
    case atStart => exact ⟨0, [], rfl, Nat.zero_le _, (show _ = _ from rfl), (show _ = _ from rfl), (show World.ownsRow _ _ _ _ _ _ _ from by rw [List.append_nil]; exact HO3.out), HB3, HBB.out.2.1⟩
    case round =>
      obtain ⟨j, ts, rfl, hjn, HTL, HTX, HO, HB, hBs⟩ := hrel
      by_cases hlt : j < n
      · have hjp : j < ps.length := by have := HN.out; omega
        obtain ⟨gb, go_, hA, hgl, -, hc⟩ := HV.out.at j (by rw [List.length_map]; exact hjp)
        subst hA
        rw [List.getElem_map] at hc
        obtain ⟨p, hp⟩ : ∃ p, p = ps[j]'hjp := ⟨_, rfl⟩
        rw [← hp] at hc
        have k0 : wr.cell? ⟨gb, go_ + j * 2, none⟩ = some (.bool p.del) := (HB.out.cell (p := ⟨gb, go_ + j * 2, none⟩) hgl).trans (hc 0 _ rfl)
        have k1 : wr.cell? ⟨gb, go_ + j * 2 + 1, none⟩ = some (.string p.text) := (HB.out.cell (p := ⟨gb, go_ + j * 2 + 1, none⟩) hgl).trans (hc 1 _ rfl)
        have HSN : Hid (txts (ps.take (j + 1)) = match p.txt with | none => none | some t => some (ts ++ [t])) := show _ = _ from by
          rw [List.take_succ_eq_append_getElem hjp, ← hp]
          exact txts_snoc HTX.out
        have HNO : Hid (p.txt = none → txts ps = none) := show _ → _ from fun h => by
          have h2 := List.take_append_drop j ps
          rw [List.drop_eq_getElem_cons hjp, ← hp] at h2
          rw [← h2]
          exact txts_none h
        have hpz : p.text.size ≤ 600 := by
          have h1 := weigh_take ps (j + 1)
          have h2 := HL.out
          have h3 : weigh (ps.take (j + 1)) = weigh (ps.take j) + (p.text.size + 2) := by
            rw [List.take_succ_eq_append_getElem hjp, ← hp]
            simp [weigh]
          omega
        have f0 : (0 : Int) ≤ j := by omega
        have f1 : (j : Int) < n := by omega
        have d1 : decide ((656 : Int) < p.text.size) = false := decide_eq_false (by omega)
        have d1' : decide (656 < p.text.size) = false := decide_eq_false (by omega)
        clear hc hp
        obtain ⟨pd, pt⟩ := p
        dsimp only at k0 k1 hpz d1 d1' HSN HNO
        cases pd with
        | true =>
          by_cases hz : pt.size = 0
          · have hq : pt.toList.isEmpty = true := by rw [empty_is, decide_eq_true hz]
            have hpf : (match PT.txt ⟨true, pt⟩ with | none => none | some t => some (ts ++ [t])) = some (ts ++ [bstr [2]]) := by rw [show PT.txt ⟨true, pt⟩ = some (bstr [2]) from if_pos hz]
            go_wp2_with (at_builtin; refine wpList_append_own _ rfl (.tmp 58) (.tmp 59) 45 rfl B 9 i0 (.string ⟨#[]⟩) 1 16 Tryd.underlying45 hi hz0 hz1 hz2 rfl (by decide) _ _ _ rfl ((HO.out.alloc _).alloc _) ⟨wr.heap.size + 1, 0, none⟩ 1 1 [.string (bstr [2])] rfl rfl (news_two wr _ _ _ (by simp)) (by simp [Value.oneCell']) (by unfold maxLen; omega) (by omega) (by simp; omega) ?_; intro v' w5 hO5 hg5 hn5)
            have HO5 := Lib.hid hO5
            have HB5 : Hid (Below w.heap.size w w5) := show Below _ _ _ from (bw_alloc (bw_alloc HB.out _) _).grown hg5 (by have := HB.out.size; simp; omega) (fun k hk => by have := own_blk HO.out k hk; have := HBB.out.1; omega)
            have hbs5 : B ≤ w5.heap.size := by have := hg5.size; simp at this; omega
            have HTX5 : Hid (txts (ps.take (j + 1)) = some (ts ++ [(bstr [2])])) := show _ = _ from by rw [HSN.out]; exact hpf
            have HTL5 : Hid ((ts ++ [(bstr [2])]).length = j + 1) := show _ = _ from by rw [List.length_append, HTL.out]; rfl
            clear hO5 hg5 hn5
            go_roundw
            case rel =>
              refine ⟨j + 1, ts ++ [(bstr [2])], by go_num, by omega, HTL5, HTX5, ?_, HB5, hbs5⟩
              show World.ownsRow _ _ _ _ _ _ _
              have h := HO5.out
              rw [strs, ← List.append_assoc, List.map_append]
              exact h
            case measure => simp; omega
          · have hq : pt.toList.isEmpty = false := by rw [empty_is, decide_eq_false hz]
            have HR2 : Hid (r = (⟨#[]⟩, 2)) := show _ = _ from by
              rw [HR.out, HNO.out (show PT.txt ⟨true, pt⟩ = none from if_neg hz)]
            go_wp2_with fail
            go_ret2
            rw [HR2.out]
            exact ⟨rfl, bw_alloc HB.out _⟩
        | false =>
          have hsum : ¬ 9223372036854775807 < 1 + pt.size := by omega
          have hpf : (match PT.txt ⟨false, pt⟩ with | none => none | some t => some (ts ++ [t])) = some (ts ++ [bstr (1 :: pt.data.toList)]) := by rw [show PT.txt ⟨false, pt⟩ = some (bstr (1 :: pt.data.toList)) from (if_neg Bool.false_ne_true).trans (if_pos (by show pt.size ≤ 656; omega))]
          go_wp2_with (at_builtin; refine wpList_append_own _ rfl (.tmp 37) (.tmp 41) 45 rfl B 9 i0 (.string ⟨#[]⟩) 1 16 Tryd.underlying45 hi hz0 hz1 hz2 rfl (by decide) _ _ _ rfl ((HO.out.alloc _).alloc _) ⟨wr.heap.size + 1, 0, none⟩ 1 1 [.string ((⟨#[1]⟩ : ByteArray) ++ pt)] rfl rfl (news_two wr _ _ _ (by simp)) (by simp [Value.oneCell']) (by unfold maxLen; omega) (by omega) (by simp; omega) ?_; intro v' w5 hO5 hg5 hn5)
          rw [one_text] at hO5
          have HO5 := Lib.hid hO5
          have HB5 : Hid (Below w.heap.size w w5) := show Below _ _ _ from (bw_alloc (bw_alloc HB.out _) _).grown hg5 (by have := HB.out.size; simp; omega) (fun k hk => by have := own_blk HO.out k hk; have := HBB.out.1; omega)
          have hbs5 : B ≤ w5.heap.size := by have := hg5.size; simp at this; omega
          have HTX5 : Hid (txts (ps.take (j + 1)) = some (ts ++ [(bstr (1 :: pt.data.toList))])) := show _ = _ from by rw [HSN.out]; exact hpf
          have HTL5 : Hid ((ts ++ [(bstr (1 :: pt.data.toList))]).length = j + 1) := show _ = _ from by rw [List.length_append, HTL.out]; rfl
          clear hO5 hg5 hn5
          go_roundw
          case rel =>
            refine ⟨j + 1, ts ++ [(bstr (1 :: pt.data.toList))], by go_num, by omega, HTL5, HTX5, ?_, HB5, hbs5⟩
            show World.ownsRow _ _ _ _ _ _ _
            have h := HO5.out
            rw [strs, ← List.append_assoc, List.map_append]
            exact h
          case measure => simp; omega
      · have hje : j = n := by omega
        subst hje
        have d1 : decide ((j : Int) < j) = false := decide_eq_false (by omega)
        have htx := HTX.out
        rw [List.take_of_length_le (by rw [← HN.out]; exact Nat.le_refl _)] at htx
        have HR2 : Hid (r = (bstr (encList ((BT.mk sq fs bf ps).lay ts)), 0)) := show _ = _ from by rw [HR.out, htx]
        obtain ⟨s1, s2⟩ := HSM.out ts htx
        have HS2 := Lib.hid s2
        have HRD : Hid (RdStrs wr u4 ((BT.mk sq fs bf ps).lay ts)) := show RdStrs _ _ _ from RdStrs.of_own HO.out (by omega) (by have := HBB.out.2.2; omega)
        clear htx s2
        go_wp2_with fail
        refine (nwrite_ok _ _ _ HRD.out s1 (Nat.le_trans HS2.out (by decide))).mono ?_
        rintro e w6 ⟨rfl, hb6⟩
        have HB6 : Hid (Below w.heap.size w w6) := show Below _ _ _ from HB.out.trans (hb6.mono HB.out.size)
        clear hb6
        go_wp2_with fail
        go_ret2
        rw [HR2.out]
        exact ⟨rfl, HB6.out⟩
end Go.Proofs.YtbeooeihedhabaaDoor
