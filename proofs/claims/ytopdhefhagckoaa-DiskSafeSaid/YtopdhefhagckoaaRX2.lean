/- cavalcaderef09.Disk: put, drop: what the calls do. -/
import Derived.Test.YtopdhefhagckoaaRX1
import Derived.Deep.MidRow
import Derived.Laws.Cover1
import Derived.Lib.Strings
import Derived.Great.BuildSlice
import Derived.Sort.Walk0
namespace Go.Proofs.Ytopdhefhagckoaa
open Go.RowKit
set_option maxHeartbeats 20000000
set_option maxRecDepth 4000
theorem infoFile : (Try.prog.info? 66).map (fun i => (i.zero, i.size, i.bytes)) = some (some (.agg #[.string ⟨#[]⟩, .string ⟨#[]⟩, .int .i64 0]), 3, 40) := by kernel_rfl
theorem file_info (f : FE) : (Try.prog.info? 66).map (·.size) = some (fcl f).length := by
  rw [show (fcl f).length = 3 from rfl]
  kernel_rfl
theorem fcl_one (f : FE) : ∀ u ∈ fcl f, u.oneCell' = true := by
  intro u hu
  simp only [fcl, List.mem_cons, List.not_mem_nil, or_false] at hu
  rcases hu with rfl | rfl | rfl <;> rfl
abbrev zlF : List Value := [.string ⟨#[]⟩, .string ⟨#[]⟩, .int .i64 0]
theorem file_fill (f : FE) {ie : TypeInfo} (h : ie.size = 3) : Instr.fill (fun i => some (i * ie.size, ie.size)) ((Array.range (1 * ie.size)).map ((Value.agg zlF.toArray).cells[· % (Value.agg zlF.toArray).cells.size]!)) #[(0, Value.agg (fcl f).toArray)].toList = some (fcl f).toArray := by
  have hz : (Array.range (1 * 3)).map (fun i => (Value.agg zlF.toArray).cells[i % (Value.agg zlF.toArray).cells.size]!) = zlF.toArray := by kernel_rfl
  rw [h, hz, fill_cons (off := 0) (size := 3) rfl (by rfl) (by decide)]
  rfl
theorem news3 (w : World) (cs : List Value) (t : TypeId) (j : Nat) (u : Value) (h : cs[j]? = some u) : (w.alloc (.cells cs.toArray t)).cell? ((⟨w.heap.size, 0, none⟩ : Addr).add j) = some u := by
  rw [Addr.add_mid, Nat.zero_add, cell_of_row _ _ _ _ _ _ (heap_alloc_new w (.cells cs.toArray t))]
  simpa using h
theorem own_shape {w : World} {base n size : Nat} {e : TypeId} {v : Value} {xs : List Value} (h : w.ownsRow base e size v n xs) : ∃ q c, v = .slice q n c := by
  rcases h.2 with ⟨rfl, rfl⟩ | ⟨g, cap, cur, rfl, _⟩
  · exact ⟨_, _, rfl⟩
  · exact ⟨_, _, rfl⟩
/-- a row of files that a call makes, beside a block of its own -/
structure PtAt (W wr : World) (E : Option Obj) (out : Value) (ol : List FE) : Prop where
  b : Below W.heap.size W wr
  p : ∀ o, E = some o → wr.heap[W.heap.size]? = some o
  own : wr.ownsRow (W.heap.size + 1) 66 3 out ol.length (fcls ol)
theorem PtAt.app {W wr w' : World} {E : Option Obj} {out out' : Value} {ol : List FE} {g : FE} {cs : Array Value} {t : TypeId} (h : PtAt W wr E out ol) (ho : w'.ownsRow (W.heap.size + 1) 66 3 out' (ol.length + 1) (fcls ol ++ fcl g)) (hg : (wr.alloc (.cells cs t)).grownBy w' out.ownBlock) : PtAt W w' E out' (ol ++ [g]) := by
  have hs := h.b.size
  have hb1 : Below W.heap.size W (wr.alloc (.cells cs t)) := bw_alloc h.b _
  refine ⟨hb1.grown hg (Nat.le_trans hs (by simp)) (fun j hj => by have := own_blk h.own j hj; omega), fun o ho => ?_, ?_⟩
  · have h1 := h.p o ho
    have h2 : (wr.alloc (.cells cs t)).heap[W.heap.size]? = some o := by
      rw [← h1]
      exact (bw_alloc (Below.refl wr.heap.size wr) (.cells cs t)).block _ (block_lt h1)
    exact (hg.block _ (block_lt h2) (fun e => by have := own_blk h.own _ e.symm; omega)).trans h2
  · rw [List.length_append, fcls_append, fcls_one]
    exact ho
theorem XAt.rowq {N : Nat} {W : World} {bx : Nat} {q : Option Addr} {n c : Nat} {d : DS} (h : XAt N W bx (.slice q n c) d) (i : Nat) (hi : i < d.fs.length) : ∃ g, q = some ⟨g, 0, none⟩ ∧ g ≠ bx ∧ g < W.heap.size ∧ N ≤ g ∧ ∀ j u, (fcl (d.fs[i]'hi))[j]? = some u → W.cell? ⟨g, i * 3 + j, none⟩ = some u := by
  obtain ⟨q', c', e, hr⟩ := h.row
  injection e with e1 e2 e3
  subst e1
  exact hr i hi
theorem XAt.rowg {N : Nat} {W : World} {bx gb : Nat} {n c : Nat} {d : DS} (h : XAt N W bx (.slice (some ⟨gb, 0, none⟩) n c) d) (i : Nat) (hi : i < d.fs.length) : ∀ j u, (fcl (d.fs[i]'hi))[j]? = some u → W.cell? ⟨gb, i * 3 + j, none⟩ = some u := by
  obtain ⟨g, hg, _, _, _, hc⟩ := h.rowq i hi
  injection hg with hg
  injection hg with hg
  subst hg
  exact hc
theorem PtAt.drewN {W wr : World} {E : Option Obj} {out : Value} {ol : List FE} (h : PtAt W wr E out ol) (k : Nat) : PtAt W (wr.drewN k) E out ol := ⟨bw_drewN h.b k, h.p, h.own⟩
theorem PtAt.rowf {W wr : World} {t : TypeId} {fr : Nat × Nat} {cs : List Value} {out : Value} {ol : List FE} (h : PtAt W wr (some (.cells cs.toArray t fr)) out ol) : ∀ j u, cs[j]? = some u → wr.cell? ⟨W.heap.size, j, none⟩ = some u := by
  intro j u hu
  rw [cell_of_row _ _ _ _ _ _ (h.p _ rfl)]
  simpa using hu
theorem XAt.pt {N : Nat} {W wr : World} {bx : Nat} {v : Value} {d : DS} {E : Option Obj} {out : Value} {ol : List FE} (h : XAt N W bx v d) (hp : PtAt W wr E out ol) : XAt N wr bx v d := h.next hp.b
/-- the row made is laid in the struct -/
theorem XAt.lay {N : Nat} {W wr : World} {bx : Nat} {v out : Value} {d : DS} {E : Option Obj} {ol : List FE} (h : XAt N W bx v d) (hp : PtAt W wr E out ol) (hw : DS.wf { d with fs := ol }) : XTo N W (wr.setCell ⟨bx, 0, none⟩ out) bx v { d with fs := ol } := by
  have hX := h.pt hp
  have hbx := h.lt (k := bx) (.inl rfl)
  have hT := Turn.set wr bx 0 out
  have hge : ∀ k, out.ownBlock = some k → W.heap.size + 1 ≤ k := fun k hk => own_blk hp.own k hk
  have hNs : N ≤ W.heap.size := by have := h.lo; omega
  refine ⟨out, ⟨set_row (i := 0) (cs := [v, .int .i64 (leftI d.left)]) hX.x out, ?_, fun e => by have := hge bx e; omega, h.lo, hw, h.lf⟩, fun k hk => .inr (by have := hge k hk; omega), ((Turn.of_below hp.b (Xs bx v)).trans hT fun k _ e => .inl e)⟩
  have ho := own_other hp.own (W' := wr.setCell ⟨bx, 0, none⟩ out) fun k hk => hT.block k (hp.own.lt k hk).2 (by have := hge k hk; omega)
  refine ⟨ho.1, ?_⟩
  rcases ho.2 with h1 | ⟨g, cap, cur, h1, h2, h3⟩
  · exact .inl h1
  · exact .inr ⟨g, cap, cur, h1, by omega, h3⟩
theorem xput_any {N : Nat} {bx : Nat} {v : Value} {d : DS} (W : World) (h : XAt N W bx v d) (f : FE) (hw : DS.wf { d with fs := putN FE.nm f d.fs }) :
    Calls Try.prog 40 #[.pointer (some ⟨bx, 0, none⟩), .agg (fcl f).toArray] W fun e w' => e = .returned (.tuple #[]) ∧ XTo N W w' bx v { d with fs := putN FE.nm f d.fs } := by
  obtain ⟨i0, hi, hz0, hz1, hz2⟩ := info_parts infoFile
  have hP0 : PtAt W (W.alloc (.cells (fcl f).toArray 66)) (some (.cells (fcl f).toArray 66 (0, 0))) (.slice none 0 0) [] := ⟨bw_alloc (Below.refl _ _) _, fun o ho => by cases ho; exact heap_alloc_new W _, own_nil _ _ _ _⟩
  have HP0 := Lib.hid hP0
  have HX := Lib.hid h
  have HWF := Lib.hid hw
  have HPU : Hid (rputN FE.nm f false d.fs = putN FE.nm f d.fs) := show _ = _ from rputN_is h.wf.rising
  obtain ⟨q, c, rfl, -⟩ := h.row
  have k0 := h.c0
  have hn8 : d.fs.length ≤ 8 := h.wf.few
  obtain ⟨n, hn⟩ : ∃ n, n = d.fs.length := ⟨_, rfl⟩
  rw [← hn] at k0 hn8 HX ⊢
  have HN := Lib.hid hn
  clear h hw hn hP0 k0
  go_enter Try.func40, Try.ntmps40
  go_wp2_with fail
  go_loopw [4, 5, 6] (fun o_ dn_ i_ wr => ∃ (i : Nat) (dn : Bool) (ol : List FE), i_ = .int .i64 i ∧ dn_ = .bool dn ∧ i ≤ n ∧ ol.length ≤ 2 * i ∧ Hid (ol ++ rputN FE.nm f dn (d.fs.drop i) = putN FE.nm f d.fs) ∧ Hid (PtAt W wr (some (.cells (fcl f).toArray 66 (0, 0))) o_ ol)) (fun _ _ i_ _ => match i_ with | .int _ j => n - j.toNat | _ => 0)
  case atStart => exact ⟨0, false, [], rfl, rfl, Nat.zero_le _, Nat.le_refl _, HPU, HP0⟩
  case round =>
    obtain ⟨i, dn, ol, rfl, rfl, hin, hol, HOL, HP⟩ := hrel
    have HXi := Lib.hid (HX.out.pt HP.out)
    have k0 := HXi.out.c0
    by_cases hlt : i < n
    · have hil : i < d.fs.length := by have := HN.out; omega
      obtain ⟨gb, hg, hgb, hgl, hgN, hc⟩ := HXi.out.rowq i hil
      subst hg
      obtain ⟨g, hgg⟩ : ∃ x, x = d.fs[i]'hil := ⟨_, rfl⟩
      have HG : Hid (∀ wx, XAt N wx bx (.slice (some ⟨gb, 0, none⟩) n c) d → ∀ j u, (fcl g)[j]? = some u → wx.cell? ⟨gb, i * 3 + j, none⟩ = some u) := show ∀ wx, _ from fun wx hX => by rw [hgg]; exact hX.rowg i hil
      have hdr : d.fs.drop i = g :: d.fs.drop (i + 1) := by rw [List.drop_eq_getElem_cons hil, hgg]
      have f0 : (0 : Int) ≤ i := by omega
      have f1 : (i : Int) < n := by omega
      rw [hdr] at HOL
      clear hc hgg hgb hgl hgN hdr
      have kn : wr.cell? ⟨gb, i * 3, none⟩ = some (.string (bstr g.nm)) := HG.out wr HXi.out 0 _ rfl
      have kf : wr.cell? ⟨W.heap.size, 0, none⟩ = some (.string (bstr f.nm)) := HP.out.rowf 0 _ rfl
      by_cases heq : g.nm = f.nm
      · have hq : ((bstr g.nm).toList == (bstr f.nm).toList) = true := by rw [heq]; exact beq_self_eq_true _
        have hls : ¬ g.nm < f.nm := by rw [heq]; exact lt_irrefl _
        have hl : Op.bytesLess (bstr g.nm).toList (bstr f.nm).toList = false := by rw [ByteArray.toList_eq, ByteArray.toList_eq, bstr_toList, bstr_toList, bytesLess_eq, decide_eq_false hls]
        cases dn with
        | true =>
          have HN2 : Hid (ol ++ rputN FE.nm f true (d.fs.drop (i + 1)) = putN FE.nm f d.fs) := show _ = _ from by
            rw [← HOL.out, rputN, if_neg (by simp), if_neg (by simpa using heq), Bool.true_or]; rfl
          clear heq hls
          go_wp2_with fail
          go_quiet (fail)
          have HP5 := Lib.hid (HP.out.drewN nq)
          generalize wr.drewN nq = w5 at *
          have HX5 := Lib.hid (HX.out.pt HP5.out)
          have k05 := HX5.out.c0
          have kn5 : w5.cell? ⟨gb, i * 3, none⟩ = some (.string (bstr g.nm)) := HG.out w5 HX5.out 0 _ rfl
          have kf5 : w5.cell? ⟨W.heap.size, 0, none⟩ = some (.string (bstr f.nm)) := HP5.out.rowf 0 _ rfl
          have HRG5 : Hid (w5.rangeAt gb (i * 3) (fcl g)) := show World.rangeAt _ _ _ _ from HG.out w5 HX5.out
          go_wp2_with fail
          go_quiet (fail)
          have HP6 := Lib.hid (HP5.out.drewN nq)
          generalize w5.drewN nq = w6 at *
          go_wp2_with fail
          go_roundw
          case rel => exact ⟨i + 1, _, _, by go_num, rfl, by omega, (by first | omega | (simp; omega)), HN2, HP6⟩
          case measure => simp; omega
        | false =>
          have HN2 : Hid ((ol ++ [f]) ++ rputN FE.nm f true (d.fs.drop (i + 1)) = putN FE.nm f d.fs) := show _ = _ from by
            rw [← HOL.out, rputN, if_pos ⟨rfl, hls⟩, if_neg (by simpa using heq), Bool.false_or, decide_eq_true hls, List.append_assoc]; rfl
          clear heq hls
          go_wp2_with fail
          go_quiet (fail)
          have HP5 := Lib.hid (HP.out.drewN nq)
          generalize wr.drewN nq = w5 at *
          have HRF5 : Hid (w5.rangeAt W.heap.size 0 (fcl f)) := show World.rangeAt _ _ _ _ from fun j u hu => by rw [Nat.zero_add]; exact HP5.out.rowf j u hu
          have HFL := Lib.hid (file_fill f hz1)
          go_wp2_with (first
            | (with_reducible refine wpList_load_mid rfl 66 (.tmp 3) rfl W.heap.size 0 rfl (fcl f) _ HRF5.out Try.underlying66 rfl (file_info _) ?_)
            | (refine wpList_buildSlice rfl 62 66 1 #[(0, .tmp 32)] rfl (fcl f).toArray i0 (.agg zlF.toArray) Try.underlying62 hi hz0 (by rw [hz1]; decide) (by rw [hz1]; decide) (by simp only [List.map_toArray, List.map_cons, List.map_nil]; exact HFL.out) ?_)
            | ((at_builtin; refine wpList_append_own2 rfl (.tmp 31) (.tmp 33) 62 rfl (W.heap.size + 1) 66 i0 (.agg zlF.toArray) 3 40 Try.underlying62 hi hz0 hz1 hz2 rfl (by decide) _ _ (fcls ol) rfl (HP5.out.own.alloc _) ⟨w5.heap.size, 0, none⟩ 1 1 (fcl f) rfl rfl (news3 _ _ _) (fcl_one _) (by unfold maxLen; omega) (by omega) (by have := HP5.out.b.size; simp; omega) ?_); intro v9 w6 hO2 hg2 hn2; obtain ⟨qHP6, cHP6, rfl⟩ := own_shape hO2; have HP6 := Lib.hid (HP5.out.app hO2 hg2); have k0z := (HX.out.pt HP6.out).c0; have czz : (w6).frozen? ⟨bx, 0, none⟩ = false := frozen_of_row w6 bx 0 _ _ (HX.out.pt HP6.out).x; clear hO2 hg2 hn2; go_frame))
          have HX6 := Lib.hid (HX.out.pt HP6.out)
          have k06 := HX6.out.c0
          have kn6 : w6.cell? ⟨gb, i * 3, none⟩ = some (.string (bstr g.nm)) := HG.out w6 HX6.out 0 _ rfl
          have kf6 : w6.cell? ⟨W.heap.size, 0, none⟩ = some (.string (bstr f.nm)) := HP6.out.rowf 0 _ rfl
          have HRG6 : Hid (w6.rangeAt gb (i * 3) (fcl g)) := show World.rangeAt _ _ _ _ from HG.out w6 HX6.out
          go_wp2_with fail
          go_quiet (fail)
          have HP7 := Lib.hid (HP6.out.drewN nq)
          generalize w6.drewN nq = w7 at *
          go_wp2_with fail
          go_roundw
          case rel => exact ⟨i + 1, _, _, by go_num, rfl, by omega, (by first | omega | (simp; omega)), HN2, HP7⟩
          case measure => simp; omega
      · have hq : ((bstr g.nm).toList == (bstr f.nm).toList) = false := by rw [ByteArray.toList_eq, ByteArray.toList_eq, bstr_toList, bstr_toList]; exact beq_false_of_ne heq
        cases dn with
        | true =>
          have HN2 : Hid ((ol ++ [g]) ++ rputN FE.nm f true (d.fs.drop (i + 1)) = putN FE.nm f d.fs) := show _ = _ from by
            rw [← HOL.out, rputN, if_neg (by simp), if_pos (by simpa using heq), Bool.true_or, List.append_assoc]; rfl
          clear heq
          go_wp2_with fail
          go_quiet (fail)
          have HP5 := Lib.hid (HP.out.drewN nq)
          generalize wr.drewN nq = w5 at *
          have HX5 := Lib.hid (HX.out.pt HP5.out)
          have k05 := HX5.out.c0
          have kn5 : w5.cell? ⟨gb, i * 3, none⟩ = some (.string (bstr g.nm)) := HG.out w5 HX5.out 0 _ rfl
          have kf5 : w5.cell? ⟨W.heap.size, 0, none⟩ = some (.string (bstr f.nm)) := HP5.out.rowf 0 _ rfl
          have HRG5 : Hid (w5.rangeAt gb (i * 3) (fcl g)) := show World.rangeAt _ _ _ _ from HG.out w5 HX5.out
          go_wp2_with fail
          go_quiet (fail)
          have HP6 := Lib.hid (HP5.out.drewN nq)
          generalize w5.drewN nq = w6 at *
          have HX6 := Lib.hid (HX.out.pt HP6.out)
          have k06 := HX6.out.c0
          have kn6 : w6.cell? ⟨gb, i * 3, none⟩ = some (.string (bstr g.nm)) := HG.out w6 HX6.out 0 _ rfl
          have kf6 : w6.cell? ⟨W.heap.size, 0, none⟩ = some (.string (bstr f.nm)) := HP6.out.rowf 0 _ rfl
          have HRG6 : Hid (w6.rangeAt gb (i * 3) (fcl g)) := show World.rangeAt _ _ _ _ from HG.out w6 HX6.out
          have HFL := Lib.hid (file_fill g hz1)
          go_wp2_with (first
            | (with_reducible refine wpList_load_mid rfl 66 (.tmp 52) rfl gb (i * 3) rfl (fcl g) _ HRG6.out Try.underlying66 rfl (file_info _) ?_)
            | (refine wpList_buildSlice rfl 62 66 1 #[(0, .tmp 53)] rfl (fcl g).toArray i0 (.agg zlF.toArray) Try.underlying62 hi hz0 (by rw [hz1]; decide) (by rw [hz1]; decide) (by simp only [List.map_toArray, List.map_cons, List.map_nil]; exact HFL.out) ?_)
            | ((at_builtin; refine wpList_append_own2 rfl (.tmp 46) (.tmp 54) 62 rfl (W.heap.size + 1) 66 i0 (.agg zlF.toArray) 3 40 Try.underlying62 hi hz0 hz1 hz2 rfl (by decide) _ _ (fcls ol) rfl (HP6.out.own.alloc _) ⟨w6.heap.size, 0, none⟩ 1 1 (fcl g) rfl rfl (news3 _ _ _) (fcl_one _) (by unfold maxLen; omega) (by omega) (by have := HP6.out.b.size; simp; omega) ?_); intro v9 w8 hO2 hg2 hn2; obtain ⟨qHP8, cHP8, rfl⟩ := own_shape hO2; have HP8 := Lib.hid (HP6.out.app hO2 hg2); have k0z := (HX.out.pt HP8.out).c0; have czz : (w8).frozen? ⟨bx, 0, none⟩ = false := frozen_of_row w8 bx 0 _ _ (HX.out.pt HP8.out).x; clear hO2 hg2 hn2; go_frame))
          go_wp2_with fail
          go_roundw
          case rel => exact ⟨i + 1, _, _, by go_num, rfl, by omega, (by first | omega | (simp; omega)), HN2, HP8⟩
          case measure => simp; omega
        | false =>
          by_cases hls : g.nm < f.nm
          · have hl : Op.bytesLess (bstr g.nm).toList (bstr f.nm).toList = true := by rw [ByteArray.toList_eq, ByteArray.toList_eq, bstr_toList, bstr_toList, bytesLess_eq, decide_eq_true hls]
            have HN2 : Hid ((ol ++ [g]) ++ rputN FE.nm f false (d.fs.drop (i + 1)) = putN FE.nm f d.fs) := show _ = _ from by
              rw [← HOL.out, rputN, if_neg (by simp [hls]), if_pos (by simpa using heq), Bool.false_or, decide_eq_false (by simpa using hls), List.append_assoc]; rfl
            clear heq hls
            go_wp2_with fail
            go_quiet (fail)
            have HP5 := Lib.hid (HP.out.drewN nq)
            generalize wr.drewN nq = w5 at *
            have HX5 := Lib.hid (HX.out.pt HP5.out)
            have k05 := HX5.out.c0
            have kn5 : w5.cell? ⟨gb, i * 3, none⟩ = some (.string (bstr g.nm)) := HG.out w5 HX5.out 0 _ rfl
            have kf5 : w5.cell? ⟨W.heap.size, 0, none⟩ = some (.string (bstr f.nm)) := HP5.out.rowf 0 _ rfl
            have HRG5 : Hid (w5.rangeAt gb (i * 3) (fcl g)) := show World.rangeAt _ _ _ _ from HG.out w5 HX5.out
            go_wp2_with fail
            go_quiet (fail)
            have HP6 := Lib.hid (HP5.out.drewN nq)
            generalize w5.drewN nq = w6 at *
            have HX6 := Lib.hid (HX.out.pt HP6.out)
            have k06 := HX6.out.c0
            have kn6 : w6.cell? ⟨gb, i * 3, none⟩ = some (.string (bstr g.nm)) := HG.out w6 HX6.out 0 _ rfl
            have kf6 : w6.cell? ⟨W.heap.size, 0, none⟩ = some (.string (bstr f.nm)) := HP6.out.rowf 0 _ rfl
            have HRG6 : Hid (w6.rangeAt gb (i * 3) (fcl g)) := show World.rangeAt _ _ _ _ from HG.out w6 HX6.out
            have HFL := Lib.hid (file_fill g hz1)
            go_wp2_with (first
              | (with_reducible refine wpList_load_mid rfl 66 (.tmp 52) rfl gb (i * 3) rfl (fcl g) _ HRG6.out Try.underlying66 rfl (file_info _) ?_)
              | (refine wpList_buildSlice rfl 62 66 1 #[(0, .tmp 53)] rfl (fcl g).toArray i0 (.agg zlF.toArray) Try.underlying62 hi hz0 (by rw [hz1]; decide) (by rw [hz1]; decide) (by simp only [List.map_toArray, List.map_cons, List.map_nil]; exact HFL.out) ?_)
              | ((at_builtin; refine wpList_append_own2 rfl (.tmp 46) (.tmp 54) 62 rfl (W.heap.size + 1) 66 i0 (.agg zlF.toArray) 3 40 Try.underlying62 hi hz0 hz1 hz2 rfl (by decide) _ _ (fcls ol) rfl (HP6.out.own.alloc _) ⟨w6.heap.size, 0, none⟩ 1 1 (fcl g) rfl rfl (news3 _ _ _) (fcl_one _) (by unfold maxLen; omega) (by omega) (by have := HP6.out.b.size; simp; omega) ?_); intro v9 w8 hO2 hg2 hn2; obtain ⟨qHP8, cHP8, rfl⟩ := own_shape hO2; have HP8 := Lib.hid (HP6.out.app hO2 hg2); have k0z := (HX.out.pt HP8.out).c0; have czz : (w8).frozen? ⟨bx, 0, none⟩ = false := frozen_of_row w8 bx 0 _ _ (HX.out.pt HP8.out).x; clear hO2 hg2 hn2; go_frame))
            go_wp2_with fail
            go_roundw
            case rel => exact ⟨i + 1, _, _, by go_num, rfl, by omega, (by first | omega | (simp; omega)), HN2, HP8⟩
            case measure => simp; omega
          · have hl : Op.bytesLess (bstr g.nm).toList (bstr f.nm).toList = false := by rw [ByteArray.toList_eq, ByteArray.toList_eq, bstr_toList, bstr_toList, bytesLess_eq, decide_eq_false hls]
            have HN2 : Hid (((ol ++ [f]) ++ [g]) ++ rputN FE.nm f true (d.fs.drop (i + 1)) = putN FE.nm f d.fs) := show _ = _ from by
              rw [← HOL.out, rputN, if_pos ⟨rfl, hls⟩, if_pos (by simpa using heq), Bool.false_or, decide_eq_true hls, List.append_assoc, List.append_assoc]
            clear heq hls
            go_wp2_with fail
            go_quiet (fail)
            have HP5 := Lib.hid (HP.out.drewN nq)
            generalize wr.drewN nq = w5 at *
            have HRF5 : Hid (w5.rangeAt W.heap.size 0 (fcl f)) := show World.rangeAt _ _ _ _ from fun j u hu => by rw [Nat.zero_add]; exact HP5.out.rowf j u hu
            have HFL := Lib.hid (file_fill f hz1)
            go_wp2_with (first
              | (with_reducible refine wpList_load_mid rfl 66 (.tmp 3) rfl W.heap.size 0 rfl (fcl f) _ HRF5.out Try.underlying66 rfl (file_info _) ?_)
              | (refine wpList_buildSlice rfl 62 66 1 #[(0, .tmp 32)] rfl (fcl f).toArray i0 (.agg zlF.toArray) Try.underlying62 hi hz0 (by rw [hz1]; decide) (by rw [hz1]; decide) (by simp only [List.map_toArray, List.map_cons, List.map_nil]; exact HFL.out) ?_)
              | ((at_builtin; refine wpList_append_own2 rfl (.tmp 31) (.tmp 33) 62 rfl (W.heap.size + 1) 66 i0 (.agg zlF.toArray) 3 40 Try.underlying62 hi hz0 hz1 hz2 rfl (by decide) _ _ (fcls ol) rfl (HP5.out.own.alloc _) ⟨w5.heap.size, 0, none⟩ 1 1 (fcl f) rfl rfl (news3 _ _ _) (fcl_one _) (by unfold maxLen; omega) (by omega) (by have := HP5.out.b.size; simp; omega) ?_); intro v9 w6 hO2 hg2 hn2; obtain ⟨qHP6, cHP6, rfl⟩ := own_shape hO2; have HP6 := Lib.hid (HP5.out.app hO2 hg2); have k0z := (HX.out.pt HP6.out).c0; have czz : (w6).frozen? ⟨bx, 0, none⟩ = false := frozen_of_row w6 bx 0 _ _ (HX.out.pt HP6.out).x; clear hO2 hg2 hn2; go_frame))
            have HX6 := Lib.hid (HX.out.pt HP6.out)
            have k06 := HX6.out.c0
            have kn6 : w6.cell? ⟨gb, i * 3, none⟩ = some (.string (bstr g.nm)) := HG.out w6 HX6.out 0 _ rfl
            have kf6 : w6.cell? ⟨W.heap.size, 0, none⟩ = some (.string (bstr f.nm)) := HP6.out.rowf 0 _ rfl
            have HRG6 : Hid (w6.rangeAt gb (i * 3) (fcl g)) := show World.rangeAt _ _ _ _ from HG.out w6 HX6.out
            go_wp2_with fail
            go_quiet (fail)
            have HP7 := Lib.hid (HP6.out.drewN nq)
            generalize w6.drewN nq = w7 at *
            have HX7 := Lib.hid (HX.out.pt HP7.out)
            have k07 := HX7.out.c0
            have kn7 : w7.cell? ⟨gb, i * 3, none⟩ = some (.string (bstr g.nm)) := HG.out w7 HX7.out 0 _ rfl
            have kf7 : w7.cell? ⟨W.heap.size, 0, none⟩ = some (.string (bstr f.nm)) := HP7.out.rowf 0 _ rfl
            have HRG7 : Hid (w7.rangeAt gb (i * 3) (fcl g)) := show World.rangeAt _ _ _ _ from HG.out w7 HX7.out
            have hol2 : (ol ++ [f]).length ≤ 2 * i + 1 := by rw [List.length_append]; exact Nat.succ_le_succ hol
            have HFL := Lib.hid (file_fill g hz1)
            go_wp2_with (first
              | (with_reducible refine wpList_load_mid rfl 66 (.tmp 52) rfl gb (i * 3) rfl (fcl g) _ HRG7.out Try.underlying66 rfl (file_info _) ?_)
              | (refine wpList_buildSlice rfl 62 66 1 #[(0, .tmp 53)] rfl (fcl g).toArray i0 (.agg zlF.toArray) Try.underlying62 hi hz0 (by rw [hz1]; decide) (by rw [hz1]; decide) (by simp only [List.map_toArray, List.map_cons, List.map_nil]; exact HFL.out) ?_)
              | ((at_builtin; refine wpList_append_own2 rfl (.tmp 46) (.tmp 54) 62 rfl (W.heap.size + 1) 66 i0 (.agg zlF.toArray) 3 40 Try.underlying62 hi hz0 hz1 hz2 rfl (by decide) _ _ (fcls (ol ++ [f])) rfl (HP7.out.own.alloc _) ⟨w7.heap.size, 0, none⟩ 1 1 (fcl g) rfl rfl (news3 _ _ _) (fcl_one _) (by unfold maxLen; omega) (by omega) (by have := HP7.out.b.size; simp; omega) ?_); intro v9 w8 hO2 hg2 hn2; obtain ⟨qHP8, cHP8, rfl⟩ := own_shape hO2; have HP8 := Lib.hid (HP7.out.app hO2 hg2); have k0z := (HX.out.pt HP8.out).c0; have czz : (w8).frozen? ⟨bx, 0, none⟩ = false := frozen_of_row w8 bx 0 _ _ (HX.out.pt HP8.out).x; clear hO2 hg2 hn2; go_frame))
            go_wp2_with fail
            go_roundw
            case rel => exact ⟨i + 1, _, _, by go_num, rfl, by omega, (by first | omega | (simp; omega)), HN2, HP8⟩
            case measure => simp; omega
    · have hie : i = n := by omega
      subst hie
      have d0 : decide ((i : Int) < i) = false := decide_eq_false (by omega)
      have hdr : d.fs.drop i = [] := by rw [HN.out]; exact List.drop_length
      rw [hdr] at HOL
      clear hdr
      cases dn with
      | true =>
        have HN2 : Hid (ol = putN FE.nm f d.fs) := show _ = _ from by rw [← HOL.out, rputN, if_pos rfl, List.append_nil]
        obtain ⟨qo, co, rfl⟩ := own_shape HP.out.own
        have k05 := (HX.out.pt HP.out).c0
        have cz5 : wr.frozen? ⟨bx, 0, none⟩ = false := frozen_of_row wr bx 0 _ _ (HX.out.pt HP.out).x
        have HTO : Hid (XTo N W (wr.setCell ⟨bx, 0, none⟩ (.slice qo ol.length co)) bx (.slice q i c) { d with fs := putN FE.nm f d.fs }) := show XTo _ _ _ _ _ _ from by
          have hw := HWF.out
          have he := HN2.out
          rw [← he] at hw ⊢
          exact HX.out.lay HP.out hw
        go_wp2_with fail
        go_end0
        exact ⟨rfl, HTO.out⟩
      | false =>
        have HN2 : Hid (ol ++ [f] = putN FE.nm f d.fs) := show _ = _ from by rw [← HOL.out, rputN, if_neg (by decide)]
        have HRF5 : Hid (wr.rangeAt W.heap.size 0 (fcl f)) := show World.rangeAt _ _ _ _ from fun j u hu => by rw [Nat.zero_add]; exact HP.out.rowf j u hu
        have HFL := Lib.hid (file_fill f hz1)
        go_wp2_with (first
          | (with_reducible refine wpList_load_mid rfl 66 (.tmp 3) rfl W.heap.size 0 rfl (fcl f) _ HRF5.out Try.underlying66 rfl (file_info _) ?_)
          | (refine wpList_buildSlice rfl 62 66 1 #[(0, .tmp 59)] rfl (fcl f).toArray i0 (.agg zlF.toArray) Try.underlying62 hi hz0 (by rw [hz1]; decide) (by rw [hz1]; decide) (by simp only [List.map_toArray, List.map_cons, List.map_nil]; exact HFL.out) ?_)
          | ((at_builtin; refine wpList_append_own2 rfl (.tmp 58) (.tmp 60) 62 rfl (W.heap.size + 1) 66 i0 (.agg zlF.toArray) 3 40 Try.underlying62 hi hz0 hz1 hz2 rfl (by decide) _ _ (fcls ol) rfl (HP.out.own.alloc _) ⟨wr.heap.size, 0, none⟩ 1 1 (fcl f) rfl rfl (news3 _ _ _) (fcl_one _) (by unfold maxLen; omega) (by omega) (by have := HP.out.b.size; simp; omega) ?_); intro v9 w6 hO2 hg2 hn2; obtain ⟨qHP6, cHP6, rfl⟩ := own_shape hO2; have HP6 := Lib.hid (HP.out.app hO2 hg2); have k0z := (HX.out.pt HP6.out).c0; have czz : (w6).frozen? ⟨bx, 0, none⟩ = false := frozen_of_row w6 bx 0 _ _ (HX.out.pt HP6.out).x; clear hO2 hg2 hn2; go_frame))
        have k06 := (HX.out.pt HP6.out).c0
        have cz6 : w6.frozen? ⟨bx, 0, none⟩ = false := frozen_of_row w6 bx 0 _ _ (HX.out.pt HP6.out).x
        have HTO : Hid (XTo N W (w6.setCell ⟨bx, 0, none⟩ (.slice qHP6 (ol.length + 1) cHP6)) bx (.slice q i c) { d with fs := putN FE.nm f d.fs }) := show XTo _ _ _ _ _ _ from by
          have hw := HWF.out
          have he := HN2.out
          rw [← he] at hw ⊢
          exact HX.out.lay HP6.out hw
        go_end0
        exact ⟨rfl, HTO.out⟩
theorem xdrop_any {N : Nat} {bx : Nat} {v : Value} {d : DS} (W : World) (h : XAt N W bx v d) (s : ByteArray) (hw : DS.wf { d with fs := dropN FE.nm s.data.toList d.fs }) :
    Calls Try.prog 42 #[.pointer (some ⟨bx, 0, none⟩), .string s] W fun e w' => e = .returned (.tuple #[]) ∧ XTo N W w' bx v { d with fs := dropN FE.nm s.data.toList d.fs } := by
  obtain ⟨i0, hi, hz0, hz1, hz2⟩ := info_parts infoFile
  have HP0 : Hid (PtAt W W none (.slice none 0 0) []) := show PtAt _ _ _ _ _ from ⟨Below.refl _ _, (fun o ho => by cases ho), own_nil _ _ _ _⟩
  have HX := Lib.hid h
  have HWF := Lib.hid hw
  obtain ⟨q, c, rfl, -⟩ := h.row
  have hn8 : d.fs.length ≤ 8 := h.wf.few
  have HBX : Hid (W.heap.size = W.heap.size) := show _ = _ from rfl
  obtain ⟨n, hn⟩ : ∃ n, n = d.fs.length := ⟨_, rfl⟩
  rw [← hn] at hn8 HX ⊢
  have HN := Lib.hid hn
  clear h hw hn
  go_enter Try.func42, Try.ntmps42
  go_wp2_with fail
  go_loopw [4, 5] (fun o_ i_ wr => ∃ (i : Nat) (ol : List FE), i_ = .int .i64 i ∧ i ≤ n ∧ ol.length ≤ i ∧ Hid (ol ++ dropN FE.nm s.data.toList (d.fs.drop i) = dropN FE.nm s.data.toList d.fs) ∧ Hid (PtAt W wr none o_ ol)) (fun _ i_ _ => match i_ with | .int _ j => n - j.toNat | _ => 0)
  case atStart => exact ⟨0, [], rfl, Nat.zero_le _, Nat.le_refl _, (show _ = _ from rfl), HP0⟩
  case round =>
    obtain ⟨i, ol, rfl, hin, hol, HOL, HP⟩ := hrel
    have HXi := Lib.hid (HX.out.pt HP.out)
    have k0 := HXi.out.c0
    by_cases hlt : i < n
    · have hil : i < d.fs.length := by have := HN.out; omega
      obtain ⟨gb, hg, hgb, hgl, hgN, hc⟩ := HXi.out.rowq i hil
      subst hg
      obtain ⟨g, hgg⟩ : ∃ x, x = d.fs[i]'hil := ⟨_, rfl⟩
      have HG : Hid (∀ wx, XAt N wx bx (.slice (some ⟨gb, 0, none⟩) n c) d → ∀ j u, (fcl g)[j]? = some u → wx.cell? ⟨gb, i * 3 + j, none⟩ = some u) := show ∀ wx, _ from fun wx hX => by rw [hgg]; exact hX.rowg i hil
      have hdr : d.fs.drop i = g :: d.fs.drop (i + 1) := by rw [List.drop_eq_getElem_cons hil, hgg]
      have f0 : (0 : Int) ≤ i := by omega
      have f1 : (i : Int) < n := by omega
      rw [hdr] at HOL
      clear hc hgg hgb hgl hgN hdr
      have kn : wr.cell? ⟨gb, i * 3, none⟩ = some (.string (bstr g.nm)) := HG.out wr HXi.out 0 _ rfl
      have HRG : Hid (wr.rangeAt gb (i * 3) (fcl g)) := show World.rangeAt _ _ _ _ from HG.out wr HXi.out
      by_cases heq : g.nm = s.data.toList
      · have hq : ((bstr g.nm).toList == s.toList) = true := by rw [ByteArray.toList_eq, ByteArray.toList_eq, bstr_toList, heq]; exact beq_self_eq_true _
        have HN2 : Hid (ol ++ dropN FE.nm s.data.toList (d.fs.drop (i + 1)) = dropN FE.nm s.data.toList d.fs) := show _ = _ from by
          rw [← HOL.out]
          unfold dropN
          rw [List.filter_cons_of_neg (by simpa using heq)]
        clear heq
        go_wp2_with fail
        go_roundw
        case rel => exact ⟨i + 1, _, by go_num, by omega, by omega, HN2, HP⟩
        case measure => simp; omega
      · have hq : ((bstr g.nm).toList == s.toList) = false := by rw [ByteArray.toList_eq, ByteArray.toList_eq, bstr_toList]; exact beq_false_of_ne heq
        have HN2 : Hid ((ol ++ [g]) ++ dropN FE.nm s.data.toList (d.fs.drop (i + 1)) = dropN FE.nm s.data.toList d.fs) := show _ = _ from by
          rw [← HOL.out]
          unfold dropN
          rw [List.filter_cons_of_pos (by simpa using heq), List.append_assoc]; rfl
        clear heq
        have hbs := HP.out.b.size
        have HFL := Lib.hid (file_fill g hz1)
        go_wp2_with (first
          | (with_reducible refine wpList_load_mid rfl 66 (.tmp 31) rfl gb (i * 3) rfl (fcl g) _ HRG.out Try.underlying66 rfl (file_info _) ?_)
          | (refine wpList_buildSlice rfl 62 66 1 #[(0, .tmp 32)] rfl (fcl g).toArray i0 (.agg zlF.toArray) Try.underlying62 hi hz0 (by rw [hz1]; decide) (by rw [hz1]; decide) (by simp only [List.map_toArray, List.map_cons, List.map_nil]; exact HFL.out) ?_)
          | ((at_builtin; refine wpList_append_own2 rfl (.tmp 25) (.tmp 33) 62 rfl (W.heap.size + 1) 66 i0 (.agg zlF.toArray) 3 40 Try.underlying62 hi hz0 hz1 hz2 rfl (by decide) _ _ (fcls ol) rfl (HP.out.own.alloc _) ⟨wr.heap.size, 0, none⟩ 1 1 (fcl g) rfl rfl (news3 _ _ _) (fcl_one _) (by unfold maxLen; omega) (by omega) (by have := HP.out.b.size; simp; omega) ?_); intro v9 w8 hO2 hg2 hn2; obtain ⟨qHP8, cHP8, rfl⟩ := own_shape hO2; have HP8 := Lib.hid (HP.out.app hO2 hg2); have k0z := (HX.out.pt HP8.out).c0; have czz : (w8).frozen? ⟨bx, 0, none⟩ = false := frozen_of_row w8 bx 0 _ _ (HX.out.pt HP8.out).x; clear hO2 hg2 hn2; go_frame))
        go_roundw
        case rel => exact ⟨i + 1, _, by go_num, by omega, by simp; omega, HN2, HP8⟩
        case measure => simp; omega
    · have hie : i = n := by omega
      subst hie
      have d0 : decide ((i : Int) < i) = false := decide_eq_false (by omega)
      have hdr : d.fs.drop i = [] := by rw [HN.out]; exact List.drop_length
      rw [hdr] at HOL
      clear hdr
      have HN2 : Hid (ol = dropN FE.nm s.data.toList d.fs) := show _ = _ from by rw [← HOL.out]; exact (List.append_nil _).symm
      obtain ⟨qo, co, rfl⟩ := own_shape HP.out.own
      have cz5 : wr.frozen? ⟨bx, 0, none⟩ = false := frozen_of_row wr bx 0 _ _ (HX.out.pt HP.out).x
      have HTO : Hid (XTo N W (wr.setCell ⟨bx, 0, none⟩ (.slice qo ol.length co)) bx (.slice q i c) { d with fs := dropN FE.nm s.data.toList d.fs }) := show XTo _ _ _ _ _ _ from by
        have hw := HWF.out
        have he := HN2.out
        rw [← he] at hw ⊢
        exact HX.out.lay HP.out hw
      go_wp2_with fail
      go_end0
      exact ⟨rfl, HTO.out⟩
end Go.Proofs.Ytopdhefhagckoaa
