/- order's make, put: what the calls do. -/
import Derived.Test.YtckfdmkjeocadaaDoorLogFrom
namespace Go.Proofs.YtckfdmkjeocadaaDoor
open Go.RowKit
set_option maxHeartbeats 2000000
set_option maxRecDepth 4000
def mkRc (rs : List RC) (nx : List Int) (kind : Int) (body : ByteArray) (time : Int) : RC := if (fromOf rs nx kind body time).2 = 0 then linkRes (headOf rs) rs.length kind time body else RC.zero
def mkWho (rs : List RC) (nx : List Int) (kind : Int) (body : ByteArray) (time : Int) : Int := if (fromOf rs nx kind body time).2 = 0 then (fromOf rs nx kind body time).1 else 0
def mkErr (rs : List RC) (nx : List Int) (kind : Int) (body : ByteArray) (time : Int) : Int := if (fromOf rs nx kind body time).2 = 0 then linkErr (headOf rs) rs.length kind time body else (fromOf rs nx kind body time).2
structure MkAt (w W : World) (base l : Nat) (sv : Value) (rs : List RC) (nx : List Int) : Prop where
  lg : LgAt W base l sv rs nx
  z : W.heap[w.heap.size]? = some (.cells zlRc.toArray 61 (0, 0))
  b : Below w.heap.size w W
theorem MkAt.next {w W W' : World} {base l : Nat} {sv : Value} {rs : List RC} {nx : List Int} (h : MkAt w W base l sv rs nx) (hb : Below W.heap.size W W') : MkAt w W' base l sv rs nx :=
  ⟨h.lg.below hb, (hb.block _ (block_lt h.z)).trans h.z, bw_call h.b hb⟩
theorem rc0_wf {rs : List RC} (h : ∀ r ∈ rs, r.wf) (hn : rs.length ≤ 1000) {kind time : Int} {body : ByteArray} (h1 : i64ok kind) (h2 : i64ok time) (hs : body.size ≤ 140737488351232) : (RC.mk rs.length kind time body (headOf rs) z32).wf :=
  ⟨⟨by show _ ≤ (rs.length : Int); omega, by show (rs.length : Int) ≤ _; omega⟩, h1, h2, hs, headOf_length h, rfl⟩
theorem store_row {P : Program} {w : World} {b : Nat} {cur vs : List Value} {t : TypeId} (hg : w.heap[b]? = some (.cells cur.toArray t (0, 0))) (hl : vs.length = cur.length) (h1 : ∀ v ∈ vs, v.oneCell' = true) :
    ∃ W', (storeCells ⟨b, 0, none⟩ vs).run P w = .ok () W' ∧ Upd w W' b (.cells vs.toArray t (0, 0)) := by
  refine ⟨w.setCells b (0 + 0) vs, run_storeCells_cells b 0 vs 0 w (fun j hj => ?_) (fun j hj => frozen_of_row w b _ _ _ hg) h1, ?_⟩
  · rw [cell_of_row w b _ _ _ _ hg, List.getElem?_toArray, show 0 + 0 + j = j by omega, List.getElem?_eq_getElem (by omega)]
    rfl
  · have hU := upd_setCells (o := 0) (vs := vs) hg (by omega)
    rw [splice_all _ _ hl] at hU
    exact hU
theorem bw_allocd (w : World) (o : Obj) : Below w.heap.size w (w.alloc o).drew := (bw_alloc (Below.refl _ _) o).drew
theorem post_cell_tmp2 {P : Program} {R : Ending → World → Prop} {fn : Func} {a : Act} {w : World} (p t s : Tmp) (ty : TypeId) (h : fn.results = #[.cell p ty, .tmp t, .tmp s]) (g : Nat) (T : TypeId) (cs : List Value) (fr : Nat × Nat) (d : TypeDesc)
    (hg : w.heap[g]? = some (.cells cs.toArray T fr)) (hu : P.underlying ty = some d) (hd : d.isRow = true) (hi : (P.info? ty).map (·.size) = some cs.length) (v u : Value)
    (hp : a.tmps.getD p undef = .pointer (some ⟨g, 0, none⟩)) (hv : a.tmps.getD t undef = v) (hv2 : a.tmps.getD s undef = u) (hdf : a.defers = []) (hR : R (.returned (.tuple #[.agg cs.toArray, v, u])) w) : bodyPost P fn R .ret a w := by
  subst hv hv2
  refine bodyPost_ret ?_ hdf hR
  have hp' : a.tmps[p]?.getD undef = .pointer (some ⟨g, 0, none⟩) := by simpa using hp
  have hl := run_loadVar_row (P := P) w g T ty cs.toArray fr d hg hu (by cases d <;> simp_all) (by simpa using hi)
  simp [results, h, hp', asAddr, hl]
theorem make_any (base l : Nat) (sv : Value) (rs : List RC) (nx : List Int) (kind : Int) (body : ByteArray) (time : Int) (w : World) (hL : LgAt w base l sv rs nx) (h1 : i64ok kind) (h2 : i64ok time) (hs : body.size ≤ 140737488351232) (hR : RoundsAt w) :
    Calls Tryd.prog 85 #[.pointer (some ⟨l, 0, none⟩), .int .i64 kind, .string body, .int .i64 time] w fun e w' => e = .returned (.tuple #[.agg (mkRc rs nx kind body time).cells.toArray, .int .i64 (mkWho rs nx kind body time), .int .i64 (mkErr rs nx kind body time)]) ∧ Below w.heap.size w w' := by
  have hM0 : MkAt w (w.alloc (.cells Tryd.zeroCells61 61)) base l sv rs nx := ⟨hL.below (bw_alloc (Below.refl _ _) _), heap_alloc_new _ _, bw_alloc (Below.refl _ _) _⟩
  have HFR := Lib.hid (from_any base l sv rs nx kind body time _ hM0.lg hs (hR.below hM0.b hR.1))
  obtain ⟨wh, hwh⟩ : ∃ x, x = (fromOf rs nx kind body time).1 := ⟨_, rfl⟩
  obtain ⟨er, her⟩ : ∃ x, x = (fromOf rs nx kind body time).2 := ⟨_, rfl⟩
  obtain ⟨r1, hr1⟩ : ∃ x, x = mkRc rs nx kind body time := ⟨_, rfl⟩
  obtain ⟨r2, hr2⟩ : ∃ x, x = mkWho rs nx kind body time := ⟨_, rfl⟩
  obtain ⟨r3, hr3⟩ : ∃ x, x = mkErr rs nx kind body time := ⟨_, rfl⟩
  rw [← hr1, ← hr2, ← hr3]
  rw [← hwh, ← her] at HFR
  have HR1 := Lib.hid hr1
  have HR2 := Lib.hid hr2
  have HR3 := Lib.hid hr3
  have HWH := Lib.hid hwh
  have HER := Lib.hid her
  have HM0 := Lib.hid hM0
  have HR := Lib.hid hR
  have HLW := Lib.hid (rc0_wf hL.wf hL.small h1 h2 hs)
  have hsh : ∃ q c, sv = .slice q rs.length c := by
    rcases hL.own.2 with ⟨h1, h2⟩ | ⟨g, cap, cur, h1, _⟩
    · exact ⟨none, 0, by rw [h1, h2]⟩
    · exact ⟨_, _, h1⟩
  clear hr1 hr2 hr3 hwh her hM0 hR hL
  by_cases he : er = 0
  · have HQ : Hid (r1 = linkRes (headOf rs) rs.length kind time body ∧ r2 = wh ∧ r3 = linkErr (headOf rs) rs.length kind time body) := show _ ∧ _ by
      rw [HR1.out, HR2.out, HR3.out, mkRc, mkWho, mkErr, ← HER.out, ← HWH.out, he]
      exact ⟨rfl, rfl, rfl⟩
    subst he
    obtain ⟨sq, c, rfl⟩ := hsh
    obtain ⟨m, hm⟩ : ∃ m, m = rs.length := ⟨_, rfl⟩
    obtain ⟨h, hh⟩ : ∃ h, h = headOf rs := ⟨_, rfl⟩
    rw [← hm, ← hh] at HQ HLW
    have HLK := Lib.hid (fun W hRW => nlink_any h m kind time body W HLW.out hRW)
    obtain ⟨rc, hrc⟩ : ∃ x, x = linkRes h m kind time body := ⟨_, rfl⟩
    obtain ⟨el, hel⟩ : ∃ x, x = linkErr h m kind time body := ⟨_, rfl⟩
    rw [← hrc, ← hel] at HLK HQ
    have HRW : Hid rc.wf := show _ from by rw [hrc]; exact linkRes_wf HLW.out
    have HRL : Hid (rc.cells.length = zlRc.length) := show _ = _ from rc_len HRW.out
    have HHD := Lib.hid (fun W hW => head_any base l (.slice sq m c) rs nx W hW)
    rw [← hm] at HM0
    rw [← hh] at HHD
    have KEEP : Hid (∀ W', MkAt w W' base l (.slice sq m c) rs nx → (MkAt w W' base l (.slice sq m c) rs nx ∧ W'.cell? ⟨l, 0, none⟩ = some (.slice sq m c))) := show ∀ W', _ from fun W' h => ⟨h, h.lg.c0⟩
    clear hm hh hrc hel
    go_enter Tryd.func85, Tryd.ntmps85
    go_wp2_with fail
    refine HFR.out.mono ?_
    rintro e w1 ⟨rfl, hb1⟩
    have hT1 := HM0.out.next hb1
    clear hb1
    go_wp2_with fail
    go_region_held3 (fun W' => MkAt w W' base l (.slice sq m c) rs nx ∧ W'.cell? ⟨l, 0, none⟩ = some (.slice sq m c))
      (first | assumption | exact KEEP.out _ hT1 | exact KEEP.out _ (hT1.next (Below.refl _ _).drew) | exact KEEP.out _ (hT1.next (bw_alloc (Below.refl _ _) _)) | exact KEEP.out _ (hT1.next (bw_alloc (Below.refl _ _) _).drew) | exact KEEP.out _ hTH | exact KEEP.out _ (hTH.next (bw_alloc (Below.refl _ _) _)) | exact KEEP.out _ hTK | exact KEEP.out _ (hTK.next (bw_alloc (Below.refl _ _) _)) | exact KEEP.out _ hTS | fail)
      (first
        | (go_at_call 44; refine (HHD.out _ (MkAt.lg (And.left (by assumption)))).mono ?_; rintro e w' ⟨rfl, hbH⟩; have hTH := MkAt.next (And.left (by assumption)) hbH)
        | (go_at_call 104; refine (HLK.out _ (HR.out.below (MkAt.b (And.left (by assumption))) HR.out.1)).mono ?_; rintro e w2 ⟨rfl, hbK⟩; have hTK := MkAt.next (And.left (by assumption)) hbK
           first
             | (obtain ⟨W5, hST, hU5⟩ := store_row (P := Tryd.prog) (keep_row hbK (heap_alloc_new w' (.cells Tryd.zeroCells61 61))) HRL.out (rc_one rc); have hTS := hTH.next (hU5.below (bw_call (bw_alloc (Below.refl _ _) _) hbK) (Nat.le_refl _)); have hT13 := hU5.at_)
             | (have hbA : Below w1.heap.size w1.drew w' := hbH; obtain ⟨W5, hST, hU5⟩ := store_row (P := Tryd.prog) (heap_alloc_new w2 (.cells Tryd.zeroCells61 61)) HRL.out (rc_one rc); have hTS := hTK.next (hU5.below (bw_alloc (Below.refl _ _) _) (Nat.le_refl _)); have hT13 := hU5.at_)
             | (have hZ := keep_row hbK (keep_row hbH (show _ = some (.cells zlRc.toArray 61 (0, 0)) from heap_alloc_new w1 (.cells Tryd.zeroCells61 61))); obtain ⟨W5, hST, hU5⟩ := store_row (P := Tryd.prog) hZ HRL.out (rc_one rc); have hY := bw_call (bw_call (bw_allocd w1 (.cells Tryd.zeroCells61 61)) hbH) hbK; have hT13 := hU5.at_; have hTS := hT1.next (hU5.below hY (Nat.le_refl _)))))
    all_goals
      have hz := hTS.z
      have HTS := Lib.hid hTS
      clear hTS hTK hTH hT1 hbH hbK hST hU5 KEEP
      go_wp2_with (first
        | (with_reducible refine wpList_load_rows rfl 61 (.tmp 13) rfl _ 0 rc.cells rc.cells 61 (0, 0) _ rfl hT13 id_at Tryd.underlying61 rfl (rc_info HRW.out) ?_)
        | ((with_reducible refine wpList_store_whole rfl 61 (.tmp 8) (.tmp 40) rfl w.heap.size rc.cells zlRc 61 rfl rfl hz HRL.out (rc_info HRW.out) (rc_one _) ?_); intro w6 hU6))
      exact post_cell_tmp2 8 9 10 61 rfl w.heap.size _ rc.cells _ _ hU6.out.at_ Tryd.underlying61 rfl (rc_info HRW.out) (.int .i64 wh) (.int .i64 el) rfl rfl rfl rfl ⟨by rw [HQ.out.1, HQ.out.2.1, HQ.out.2.2], hU6.out.below HTS.out.b (Nat.le_refl _)⟩
  · have HQ : Hid (r1 = RC.zero ∧ r2 = 0 ∧ r3 = er) := show _ ∧ _ by
      rw [HR1.out, HR2.out, HR3.out, mkRc, mkWho, mkErr, ← HER.out, if_neg he, if_neg he, if_neg he]
      exact ⟨rfl, rfl, rfl⟩
    have hd : (er != 0) = true := by simpa using he
    clear he
    go_enter Tryd.func85, Tryd.ntmps85
    go_wp2_with fail
    refine HFR.out.mono ?_
    rintro e w1 ⟨rfl, hb1⟩
    have hT1 := HM0.out.next hb1
    have hz := hT1.z
    have HB1 := Lib.hid hT1.b
    clear hb1 hT1
    go_wp2_with (first
      | (with_reducible refine wpList_build rfl 61 [] rfl [] (.agg zlRc.toArray) rfl (rc_build0 _) ?_)
      | ((with_reducible refine wpList_store_whole rfl 61 (.tmp 8) (.tmp 24) rfl w.heap.size zlRc zlRc 61 rfl rfl hz rfl zlRc_info zlRc_one ?_); intro w6 hU6))
    exact post_cell_tmp2 8 9 10 61 rfl w.heap.size _ zlRc _ _ hU6.out.at_ Tryd.underlying61 rfl zlRc_info (.int .i64 0) (.int .i64 er) rfl rfl rfl rfl ⟨by rw [HQ.out.1, HQ.out.2.1, HQ.out.2.2]; rfl, hU6.out.below HB1.out (Nat.le_refl _)⟩
end Go.Proofs.YtckfdmkjeocadaaDoor
