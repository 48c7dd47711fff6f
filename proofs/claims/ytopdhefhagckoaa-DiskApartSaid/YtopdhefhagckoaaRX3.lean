/- cavalcaderef09.Disk: Sync, Rename, Remove: what the calls do. -/
import Derived.Test.YtopdhefhagckoaaRX2
namespace Go.Proofs.Ytopdhefhagckoaa
open Go.RowKit
set_option maxHeartbeats 4000000
set_option maxRecDepth 4000
/-- a file of the call's own, in a block of its own -/
structure PfAt (W wr : World) (pf : Nat) (f : FE) : Prop where
  b : Below W.heap.size W wr
  p : wr.heap[pf]? = some (.cells (fcl f).toArray 66 (0, 0))
  lo : W.heap.size ≤ pf
section
variable {W wr w' : World} {pf : Nat} {f f' : FE}
theorem PfAt.next (h : PfAt W wr pf f) (hb : Below wr.heap.size wr w') : PfAt W w' pf f := ⟨h.b.trans (hb.mono h.b.size), (hb.block pf (block_lt h.p)).trans h.p, h.lo⟩
theorem PfAt.set (h : PfAt W wr pf f) {i : Nat} {u : Value} (hf : (fcl f).set i u = fcl f') : PfAt W (wr.setCell ⟨pf, i, none⟩ u) pf f' :=
  ⟨h.b.trans ⟨rfl, rfl, rfl, by simp [World.setCell], fun k hk => Below.heap_setCell _ _ _ _ (by have := h.lo; show k ≠ pf; omega)⟩, by rw [← hf]; exact set_row h.p u, h.lo⟩
theorem PfAt.range (h : PfAt W wr pf f) : wr.rangeAt pf 0 (fcl f) := fun j u hu => by
  rw [Nat.zero_add, cell_of_row _ _ _ _ _ _ h.p]
  simpa using hu
theorem PfAt.c (h : PfAt W wr pf f) {j : Nat} {u : Value} (hu : (fcl f)[j]? = some u) : wr.cell? ⟨pf, j, none⟩ = some u := by
  rw [cell_of_row _ _ _ _ _ _ h.p]
  simpa using hu
theorem PfAt.fz (h : PfAt W wr pf f) (j : Nat) : wr.frozen? ⟨pf, j, none⟩ = false := frozen_of_row wr pf j _ _ h.p
theorem PfAt.up (h : Upd wr w' pf (.cells (fcl f).toArray 66 (0, 0))) (hb : Below W.heap.size W wr) (hl : W.heap.size ≤ pf) : PfAt W w' pf f := ⟨h.below hb hl, h.at_, hl⟩
end
/-- a file is put, and an operation counted -/
theorem XTo.put {N : Nat} {W w4 w5 w6 : World} {bx : Nat} {v v' : Value} {d1 : DS} (hb : Below W.heap.size W w4) (hn : OwnNewX w4 v v') (hT : Turn w4 w5 (Xs bx v)) (h2 : XAt N w6 bx v' d1) (hT2 : Turn w5 w6 (fun k => k = bx)) : XTo N W w6 bx v d1 :=
  ⟨v', h2, fun k hk => (hn k hk).imp id fun h => Nat.le_trans hb.size h, ((Turn.of_below hb (Xs bx v)).trans hT fun _ _ h => h).trans hT2 fun k _ e => .inl e⟩
theorem up_left' {d : DS} (h : d.down = false) : d.left ≠ some 0 := by
  intro e
  unfold DS.down at h
  rw [e] at h
  cases h
theorem wf_fs {d d' : DS} (h : d.wf) (he : d.fs = d'.fs) : d'.wf := ⟨by rw [← he]; exact h.rising, by rw [← he]; exact h.files, by rw [← he]; exact h.few⟩
theorem xsync_any {N : Nat} {bx : Nat} {v : Value} {d : DS} (W : World) (h : XAt N W bx v d) (s : ByteArray) :
    Calls Try.prog 32 #[.pointer (some ⟨bx, 0, none⟩), .string s] W fun e w' => e = .returned (.int .i64 (d.sync s.data.toList).2) ∧ XTo N W w' bx v (d.sync s.data.toList).1 := by
  have HD := Lib.hid (xdown_any W h)
  have HA := Lib.hid (xat_any W h s)
  have HX := Lib.hid h
  have HS := Lib.hid (XTo.same h)
  have HW := Lib.hid (wf_sync h.wf s.data.toList)
  obtain ⟨r, hr⟩ : ∃ r, r = d.sync s.data.toList := ⟨_, rfl⟩
  have hsp := hr
  unfold DS.sync at hsp
  rw [← hr] at HW ⊢
  have hup := up_left' (d := d)
  cases hd : d.down with
  | true =>
    rw [hd, if_pos rfl] at hsp
    subst hsp
    rw [hd] at HD
    clear h hr hd hup
    go_enter Try.func32, Try.ntmps32
    go_wp2_with fail
    refine HD.out.mono ?_
    rintro e w1 ⟨rfl, rfl⟩
    go_wp2_with fail
    go_ret
    exact ⟨rfl, HS.out⟩
  | false =>
    rw [hd, if_neg (by decide)] at hsp
    rw [hd] at HD
    have HUP := Lib.hid (hup hd)
    obtain ⟨q, c, rfl, -⟩ := h.row
    have k0 := h.c0
    have HSP := Lib.hid hsp
    clear h hr hd hup hsp
    go_enter Try.func32, Try.ntmps32
    go_wp2_with fail
    refine HD.out.mono ?_
    rintro e w1 ⟨rfl, rfl⟩
    go_wp2_with fail
    refine HA.out.mono ?_
    rintro e w1 ⟨rfl, z, rfl, hz⟩
    rcases hz with ⟨rfl, hf⟩ | ⟨i, hi, rfl, hf⟩
    · have hsp := HSP.out
      rw [hf] at hsp
      subst hsp
      clear hf
      go_wp2_with fail
      go_ret
      exact ⟨rfl, HS.out⟩
    · have hsp := HSP.out
      rw [hf] at hsp
      obtain ⟨gb, hg, -, -, -, hc⟩ := HX.out.rowq i hi
      subst hg
      obtain ⟨g, hgg⟩ : ∃ x, x = d.fs[i]'hi := ⟨_, rfl⟩
      rw [← hgg] at hc hsp
      subst hsp
      have HRG : Hid (w1.rangeAt gb (i * 3) (fcl g)) := show World.rangeAt _ _ _ _ from hc
      have hn8 := HX.out.wf.few
      have f0 : (0 : Int) ≤ i := by omega
      have f1 : (i : Int) < d.fs.length := by omega
      have f2 : ¬ (i : Int) < 0 := by omega
      have hz0 := heap_alloc_new w1 (.cells zlF.toArray 66)
      clear hc hgg hf HSP
      go_wp2_with (first
        | (with_reducible refine wpList_load_mid rfl 66 (.tmp 19) rfl gb (i * 3) rfl (fcl g) _ HRG.out Try.underlying66 rfl (file_info _) ?_)
        | ((with_reducible refine wpList_store_whole rfl 66 (.tmp 6) (.tmp 20) rfl w1.heap.size (fcl g) zlF 66 rfl rfl hz0 rfl (file_info g) (fcl_one g) ?_); intro w2 hU2; have hP2 := PfAt.up hU2.out (bw_alloc (Below.refl _ _) _) (Nat.le_refl _); have c0 := hP2.c (j := 0) rfl; have c1 := hP2.c (j := 1) rfl; have c2 := hP2.c (j := 2) rfl; have cz := hP2.fz 2; have HP2 := Lib.hid hP2; clear hU2 hz0 hP2))
      have HP3 := Lib.hid (HP2.out.set (i := 2) (u := .int .i64 (g.b.size : Int)) (f' := { g with safe := g.b.size }) rfl)
      have HX3 := Lib.hid (HX.out.next HP3.out.b)
      refine (xput_any _ HX3.out { g with safe := g.b.size } (wf_fs HW.out rfl)).mono ?_
      rintro e w4 ⟨rfl, v', hX4, hn4, hT4⟩
      have HX4 := Lib.hid hX4
      have HN4 := Lib.hid hn4
      have HT4 := Lib.hid hT4
      clear hX4 hn4 hT4 c0 c1 c2 cz
      go_wp2_with fail
      refine (xone_any _ HX4.out HUP.out).mono ?_
      rintro e w5 ⟨rfl, hX5, hT5⟩
      have HTO := Lib.hid (XTo.put HP3.out.b HN4.out HT4.out hX5 hT5)
      clear hX5 hT5
      go_wp2_with fail
      go_ret
      exact ⟨rfl, HTO.out⟩
theorem wf_drop {d : DS} (h : d.wf) (nm : List UInt8) : DS.wf { d with fs := dropN FE.nm nm d.fs } := by
  refine ⟨h.rising.drop, fun g hg => h.files g (drop_mem hg), ?_⟩
  have h1 := List.length_filter_le (fun f : FE => decide (f.nm ≠ nm)) d.fs
  have h2 := h.few
  show (dropN _ _ _).length ≤ 8
  unfold dropN
  omega
theorem xremove_any {N : Nat} {bx : Nat} {v : Value} {d : DS} (W : World) (h : XAt N W bx v d) (s : ByteArray) :
    Calls Try.prog 34 #[.pointer (some ⟨bx, 0, none⟩), .string s] W fun e w' => e = .returned (.int .i64 (d.remove s.data.toList).2) ∧ XTo N W w' bx v (d.remove s.data.toList).1 := by
  have HD := Lib.hid (xdown_any W h)
  have HA := Lib.hid (xat_any W h s)
  have HDR := Lib.hid (xdrop_any W h s (wf_drop h.wf _))
  have HS := Lib.hid (XTo.same h)
  obtain ⟨r, hr⟩ : ∃ r, r = d.remove s.data.toList := ⟨_, rfl⟩
  have hsp := hr
  unfold DS.remove at hsp
  rw [← hr]
  have hup := up_left' (d := d)
  cases hd : d.down with
  | true =>
    rw [hd, if_pos rfl] at hsp
    subst hsp
    rw [hd] at HD
    clear h hr hd hup
    go_enter Try.func34, Try.ntmps34
    go_wp2_with fail
    refine HD.out.mono ?_
    rintro e w1 ⟨rfl, rfl⟩
    go_wp2_with fail
    go_ret
    exact ⟨rfl, HS.out⟩
  | false =>
    rw [hd, if_neg (by decide)] at hsp
    rw [hd] at HD
    have HUP := Lib.hid (hup hd)
    have HSP := Lib.hid hsp
    clear h hr hd hup hsp
    go_enter Try.func34, Try.ntmps34
    go_wp2_with fail
    refine HD.out.mono ?_
    rintro e w1 ⟨rfl, rfl⟩
    go_wp2_with fail
    refine HA.out.mono ?_
    rintro e w1 ⟨rfl, z, rfl, hz⟩
    rcases hz with ⟨rfl, hf⟩ | ⟨i, hi, rfl, hf⟩
    · have hsp := HSP.out
      rw [hf] at hsp
      subst hsp
      clear hf
      go_wp2_with fail
      go_ret
      exact ⟨rfl, HS.out⟩
    · have hsp := HSP.out
      rw [hf] at hsp
      have hsp2 : r = (d.did (dropN FE.nm s.data.toList d.fs), 0) := hsp
      subst hsp2
      have f2 : ¬ (i : Int) < 0 := by omega
      clear hsp hf HSP
      go_wp2_with fail
      refine HDR.out.mono ?_
      rintro e w4 ⟨rfl, v', hX4, hn4, hT4⟩
      have HX4 := Lib.hid hX4
      have HN4 := Lib.hid hn4
      have HT4 := Lib.hid hT4
      clear hX4 hn4 hT4
      go_wp2_with fail
      refine (xone_any _ HX4.out HUP.out).mono ?_
      rintro e w5 ⟨rfl, hX5, hT5⟩
      have HTO := Lib.hid (XTo.put (Below.refl _ _) HN4.out HT4.out hX5 hT5)
      clear hX5 hT5
      go_wp2_with fail
      go_ret
      exact ⟨rfl, HTO.out⟩
theorem PfAt.turn {W wr w' : World} {pf : Nat} {f : FE} (h : PfAt W wr pf f) {T : Nat → Prop} (hT : Turn wr w' T) (hp : ¬ T pf) : w'.heap[pf]? = some (.cells (fcl f).toArray 66 (0, 0)) := (hT.block pf (block_lt h.p) hp).trans h.p
theorem xrename_any {N : Nat} {bx : Nat} {v : Value} {d : DS} (W : World) (h : XAt N W bx v d) (s t : ByteArray) (ht : t.size ≤ 140737488355328) :
    Calls Try.prog 33 #[.pointer (some ⟨bx, 0, none⟩), .string s, .string t] W fun e w' => e = .returned (.int .i64 (d.rename s.data.toList t.data.toList).2) ∧ XTo N W w' bx v (d.rename s.data.toList t.data.toList).1 := by
  have HD := Lib.hid (xdown_any W h)
  have HA := Lib.hid (xat_any W h s)
  have HX := Lib.hid h
  have HS := Lib.hid (XTo.same h)
  have HW := Lib.hid (wf_rename h.wf s.data.toList t.data.toList)
  have HWD := Lib.hid (wf_drop h.wf s.data.toList)
  have HWO := Lib.hid (fun W => xword_any t W ht)
  obtain ⟨r, hr⟩ : ∃ r, r = d.rename s.data.toList t.data.toList := ⟨_, rfl⟩
  have hsp := hr
  unfold DS.rename at hsp
  rw [← hr] at HW ⊢
  have hup := up_left' (d := d)
  cases hd : d.down with
  | true =>
    rw [hd, if_pos rfl] at hsp
    subst hsp
    rw [hd] at HD
    clear h hr hd hup
    go_enter Try.func33, Try.ntmps33
    go_wp2_with fail
    refine HD.out.mono ?_
    rintro e w1 ⟨rfl, rfl⟩
    go_wp2_with fail
    go_ret
    exact ⟨rfl, HS.out⟩
  | false =>
    rw [hd, if_neg (by decide)] at hsp
    rw [hd] at HD
    have HUP := Lib.hid (hup hd)
    obtain ⟨q, c, rfl, -⟩ := h.row
    have k0 := h.c0
    have HSP := Lib.hid hsp
    clear h hr hd hup hsp
    go_enter Try.func33, Try.ntmps33
    go_wp2_with fail
    refine HD.out.mono ?_
    rintro e w1 ⟨rfl, rfl⟩
    go_wp2_with fail
    refine HA.out.mono ?_
    rintro e w1 ⟨rfl, z, rfl, hz⟩
    rcases hz with ⟨rfl, hf⟩ | ⟨i, hi, rfl, hf⟩
    · have hsp := HSP.out
      rw [hf] at hsp
      subst hsp
      clear hf
      go_wp2_with fail
      go_ret
      exact ⟨rfl, HS.out⟩
    · have hsp := HSP.out
      rw [hf] at hsp
      obtain ⟨gb, hg, -, -, -, hc⟩ := HX.out.rowq i hi
      subst hg
      obtain ⟨g, hgg⟩ : ∃ x, x = d.fs[i]'hi := ⟨_, rfl⟩
      rw [← hgg] at hc hsp
      have HRG : Hid (w1.rangeAt gb (i * 3) (fcl g)) := show World.rangeAt _ _ _ _ from hc
      have hn8 := HX.out.wf.few
      have f0 : (0 : Int) ≤ i := by omega
      have f1 : (i : Int) < d.fs.length := by omega
      have f2 : ¬ (i : Int) < 0 := by omega
      have hz0 := heap_alloc_new w1 (.cells zlF.toArray 66)
      clear hc hgg hf HSP
      have HWO1 := Lib.hid (HWO.out w1)
      cases hwd : isWord t.data.toList with
      | false =>
        rw [hwd] at hsp HWO1
        have hsp2 : r = (d, 2) := hsp
        subst hsp2
        clear hsp hwd hz0
        go_wp2_with fail
        refine HWO1.out.mono ?_
        rintro e w2 ⟨rfl, rfl⟩
        go_wp2_with fail
        go_ret
        exact ⟨rfl, HS.out⟩
      | true =>
        rw [hwd] at hsp HWO1
        have hsp2 : r = (d.did (putN FE.nm { g with nm := t.data.toList } (dropN FE.nm s.data.toList d.fs)), 0) := hsp
        subst hsp2
        clear hsp hwd
        go_wp2_with fail
        refine HWO1.out.mono ?_
        rintro e w2 ⟨rfl, rfl⟩
        go_wp2_with (first
          | (with_reducible refine wpList_load_mid rfl 66 (.tmp 24) rfl gb (i * 3) rfl (fcl g) _ HRG.out Try.underlying66 rfl (file_info _) ?_)
          | ((with_reducible refine wpList_store_whole rfl 66 (.tmp 8) (.tmp 25) rfl w2.heap.size (fcl g) zlF 66 rfl rfl hz0 rfl (file_info g) (fcl_one g) ?_); intro w3 hU3; have HP3 := Lib.hid (PfAt.up hU3.out (bw_alloc (Below.refl _ _) _) (Nat.le_refl _)); clear hU3 hz0))
        have HX3 := Lib.hid (HX.out.next HP3.out.b)
        refine (xdrop_any _ HX3.out s HWD.out).mono ?_
        rintro e w4 ⟨rfl, v', hX4, hn4, hT4⟩
        have hlt3 := block_lt HP3.out.p
        have hp4 := HP3.out.turn hT4 (fun hx => by have := HX.out.lt hx; omega)
        have c0 : w4.cell? ⟨w2.heap.size, 0, none⟩ = some (.string (bstr g.nm)) := by rw [cell_of_row _ _ _ _ _ _ hp4]; rfl
        have c1 : w4.cell? ⟨w2.heap.size, 1, none⟩ = some (.string g.b) := by rw [cell_of_row _ _ _ _ _ _ hp4]; rfl
        have c2 : w4.cell? ⟨w2.heap.size, 2, none⟩ = some (.int .i64 (g.safe : Int)) := by rw [cell_of_row _ _ _ _ _ _ hp4]; rfl
        have cz : w4.frozen? ⟨w2.heap.size, 0, none⟩ = false := frozen_of_row w4 _ 0 _ _ hp4
        have hX5 : XAt N (w4.setCell ⟨w2.heap.size, 0, none⟩ (.string t)) bx v' { d with fs := dropN FE.nm s.data.toList d.fs } := hX4.kept (Turn.set w4 w2.heap.size 0 (.string t)) (fun k hk e => by
          rcases hk with rfl | hk
          · have := HX.out.lt (k := k) (.inl rfl); omega
          · rcases hn4 k hk with h1 | h1
            · have := HX.out.lt (k := k) (.inr h1); omega
            · omega)
        have HX5 := Lib.hid hX5
        have HN4 := Lib.hid hn4
        have HT4 : Hid (Turn w2 (w4.setCell ⟨w2.heap.size, 0, none⟩ (.string t)) (Xs bx (.slice (some ⟨gb, 0, none⟩) d.fs.length c))) := show Turn _ _ _ from
          (((Turn.of_below HP3.out.b (Xs bx (.slice (some ⟨gb, 0, none⟩) d.fs.length c))).trans hT4 fun _ _ h => h).trans (Turn.set w4 w2.heap.size 0 (.string t)) fun k hk e => by omega)
        clear hX4 hn4 hT4 hp4 hX5
        go_wp2_with fail
        refine (xput_any _ HX5.out { g with nm := t.data.toList } (wf_fs HW.out rfl)).mono ?_
        rintro e w6 ⟨rfl, v2, hX6, hn6, hT6⟩
        have HX6 := Lib.hid hX6
        have HN6 := Lib.hid hn6
        have HT6 := Lib.hid hT6
        clear hX6 hn6 hT6 c0 c1 c2 cz
        go_wp2_with fail
        refine (xone_any _ HX6.out HUP.out).mono ?_
        rintro e w7 ⟨rfl, hX7, hT7⟩
        have HTO : Hid (XTo N w2 w7 bx (.slice (some ⟨gb, 0, none⟩) d.fs.length c) (d.did (putN FE.nm { g with nm := t.data.toList } (dropN FE.nm s.data.toList d.fs)))) := show XTo _ _ _ _ _ _ from by
          have hsz : w2.heap.size ≤ w4.heap.size := by have h1 := HT4.out.size; simpa [World.setCell] using h1
          have hs3 : w2.heap.size ≤ w3.heap.size := HP3.out.b.size
          refine ⟨v2, hX7, fun k hk => ?_, (HT4.out.trans HT6.out fun k hk hx => ?_).trans hT7 fun k _ e => .inl e⟩
          · rcases HN6.out k hk with h1 | h1
            · exact (HN4.out k h1).imp id fun h => by omega
            · exact .inr (by have : w4.heap.size ≤ k := by simpa [World.setCell] using h1
                             omega)
          · rcases hx with rfl | hx
            · exact .inl rfl
            · rcases HN4.out k hx with h1 | h1
              · exact .inr h1
              · exact absurd hk (by omega)
        clear hX7 hT7
        go_wp2_with fail
        go_ret
        exact ⟨rfl, HTO.out⟩
end Go.Proofs.Ytopdhefhagckoaa
