/- disk's law DiskSafe: what the call does. -/
import Derived.Test.YtopdhefhagckoaaDkApart
namespace Go.Proofs.Ytopdhefhagckoaa
open Go.RowKit Go.Maps Go.Sort
set_option maxHeartbeats 8000000
set_option maxRecDepth 4000
theorem left_step {d : DS} (h : d.left = none) (a : AC) (hk : a.kind ≠ 5) : (d.step a).1.left = none := by
  unfold DS.step
  repeat' split
  · unfold DS.append
    repeat' split
    all_goals first | exact h | (simp [DS.did, h])
  · unfold DS.sync
    repeat' split
    all_goals first | exact h | (simp [DS.did, h])
  · unfold DS.rename
    repeat' split
    all_goals first | exact h | (simp [DS.did, h])
  · unfold DS.remove
    repeat' split
    all_goals first | exact h | (simp [DS.did, h])
  · rfl
theorem names_up {d : DS} (h : d.left = none) : d.names = d.fs.map FE.nm := by
  unfold DS.names
  rw [if_neg (by simp [DS.down, h])]
theorem look_up {d : DS} (h : d.left = none) {nm : List UInt8} {f : FE} (hf : d.find nm = some f) : d.look nm = (f.b, f.safe, 0) := by
  unfold DS.look
  rw [if_neg (by simp [DS.down, h]), hf]
theorem infoInt : (Try.prog.info? 3).map (fun i => (i.zero, i.size, i.bytes)) = some (some (.int .i64 0), 1, 8) := by kernel_rfl
/-- two rows that a call makes side by side -/
structure WsAt (W wr : World) (u v : Value) (j : Nat) (fs : List FE) : Prop where
  b : Below W.heap.size W wr
  us : wr.ownsRow W.heap.size 9 1 u j ((fs.take j).map fun f => .string f.b)
  vs : wr.ownsRow W.heap.size 3 1 v j ((fs.take j).map fun f => .int .i64 (f.safe : Int))
  ap : ∀ k, u.ownBlock = some k → v.ownBlock ≠ some k
theorem take_snoc {α β : Type} (g : α → β) {l : List α} {j : Nat} {f : α} (hf : l[j]? = some f) : (l.take (j + 1)).map g = (l.take j).map g ++ [g f] := by
  obtain ⟨hj, rfl⟩ := List.getElem?_eq_some_iff.1 hf
  rw [List.take_succ_eq_append_getElem hj, List.map_append]
  rfl
theorem WsAt.mid {W wr w1 : World} {u v : Value} {j : Nat} {fs : List FE} {cs1 : Array Value} {t1 : TypeId} (h : WsAt W wr u v j fs) (hg : (wr.alloc (.cells cs1 t1)).grownBy w1 u.ownBlock) : w1.ownsRow W.heap.size 3 1 v j ((fs.take j).map fun f => .int .i64 (f.safe : Int)) :=
  own_other (h.vs.alloc _) fun k hk => hg.block k (Nat.lt_of_lt_of_le (h.vs.lt k hk).2 (by simp)) fun e => h.ap k e.symm hk
theorem WsAt.app {W wr w1 w2 : World} {u v u' v' : Value} {j : Nat} {fs : List FE} {cs1 cs2 : Array Value} {t1 t2 : TypeId} {f : FE} (h : WsAt W wr u v j fs) (hf : fs[j]? = some f)
    (hu : w1.ownsRow W.heap.size 9 1 u' (j + 1) (((fs.take j).map fun f => .string f.b) ++ [.string f.b])) (hg1 : (wr.alloc (.cells cs1 t1)).grownBy w1 u.ownBlock) (hn1 : OwnNew (wr.alloc (.cells cs1 t1)) u u')
    (hv : w2.ownsRow W.heap.size 3 1 v' (j + 1) (((fs.take j).map fun f => .int .i64 (f.safe : Int)) ++ [.int .i64 (f.safe : Int)])) (hg2 : (w1.alloc (.cells cs2 t2)).grownBy w2 v.ownBlock) (hn2 : OwnNew (w1.alloc (.cells cs2 t2)) v v') : WsAt W w2 u' v' (j + 1) fs := by
  have hs := h.b.size
  have hs1 : wr.heap.size + 1 ≤ w1.heap.size := by have := hg1.size; simpa using this
  have hb1 : Below W.heap.size W w1 := (bw_alloc h.b _).grown hg1 (Nat.le_trans hs (by simp)) (fun k hk => own_blk h.us k hk)
  have hb2 : Below W.heap.size W w2 := (bw_alloc hb1 _).grown hg2 (Nat.le_trans (by omega : W.heap.size ≤ w1.heap.size) (by simp)) (fun k hk => own_blk h.vs k hk)
  have hne : ∀ k, u'.ownBlock = some k → v.ownBlock ≠ some k := fun k hk e => by
    rcases hn1 k hk with h1 | h1
    · exact h.ap k h1 e
    · have := (h.vs.lt k e).2
      have h2 : wr.heap.size + 1 ≤ k := by simpa using h1
      omega
  refine ⟨hb2, ?_, ?_, fun k hk e => ?_⟩
  · rw [take_snoc _ hf]
    exact own_other (hu.alloc _) fun k hk => hg2.block k (Nat.lt_of_lt_of_le (hu.lt k hk).2 (by simp)) fun e => hne k hk e.symm
  · rw [take_snoc _ hf]
    exact hv
  · rcases hn2 k e with h1 | h1
    · exact hne k hk h1
    · have := (hu.lt k hk).2
      have h2 : w1.heap.size + 1 ≤ k := by simpa using h1
      omega
theorem lawSafe_any (l : List A9) (v : Value) (ks : List Int) (kv : Value) (w : World) (hr : RdRows w v 6 (l.map A9.cells) (fun b => b < w.heap.size)) (hok : ∀ x ∈ l, x.ok w) (hk : RdIn w kv (ks.map fun k => .int .i64 k) (fun b => b < w.heap.size)) :
    Calls Try.prog 6 #[v, kv] w fun e w' => e = .returned (.bool true) ∧ Below w.heap.size w w' := by
  obtain ⟨is_, hi, hz0, hz1, hz2⟩ := info_parts infoStr
  obtain ⟨ii, hj, hj0, hj1, hj2⟩ := info_parts infoInt
  have HRW := Lib.hid hr
  have HOK := Lib.hid hok
  have HKV := Lib.hid hk
  obtain ⟨A, c, rfl, -⟩ := hr
  obtain ⟨n, hn⟩ : ∃ n, n = l.length := ⟨_, rfl⟩
  rw [List.length_map, ← hn] at HRW ⊢
  have HN := Lib.hid hn
  clear hok hn hk
  go_enter Try.func6, Try.ntmps6
  go_wp2_with fail
  refine (new_disk w.heap.size w w (Below.refl _ _) (Nat.le_refl _)).mono ?_
  rintro e w1 ⟨bd, bm, rfl, hD, hB1⟩
  have HD1 := Lib.hid hD
  clear hD hB1
  go_wp2_with fail
  refine (awake_any _).mono ?_
  rintro e w2 ⟨rfl, hB2⟩
  have HD2 := Lib.hid (HD1.out.next hB2)
  clear hB2
  go_wp2_with fail
  go_loopw [6] (fun i_ wr => ∃ (i : Nat) (pl : List FB), i_ = .int .i64 i ∧ i ≤ n ∧ i ≤ 60 ∧ Hid (DkAt w.heap.size w wr bd bm pl none)) (fun i_ _ => match i_ with | .int _ j => 60 - j.toNat | _ => 0)
  case atStart => exact ⟨0, [], rfl, Nat.zero_le _, Nat.zero_le _, HD2⟩
  case round =>
    obtain ⟨i, pl, rfl, hin, hi60, HD⟩ := hrel
    by_cases hlt : i < n ∧ i < 60
    · obtain ⟨h1, h2⟩ := hlt
      have hil : i < l.length := by have := HN.out; omega
      obtain ⟨A9', c9', e9, r9⟩ := HRW.out
      injection e9 with e91 e92 e93
      subst e91 e93
      obtain ⟨gb, go_, hA, hgl, -, hc⟩ := r9 i (by rw [List.length_map]; exact hil)
      subst hA
      rw [List.getElem_map] at hc
      obtain ⟨x, hx⟩ : ∃ x, x = l[i]'hil := ⟨_, rfl⟩
      rw [← hx] at hc
      have HXO : Hid (x.ok w) := show _ from HOK.out x (by rw [hx]; exact List.getElem_mem hil)
      have HCL : Hid (∀ wr : World, Below w.heap.size w wr → ∀ j u, x.cells[j]? = some u → wr.cell? ⟨gb, go_ + i * 6 + j, none⟩ = some u) := show ∀ wr, _ from fun wr hb j u hu => (hb.cell (p := ⟨gb, go_ + i * 6 + j, none⟩) hgl).trans (hc j u hu)
      have HST := Lib.hid (fun a => left_step (d := stOf pl none) rfl x.a a)
      have HDO : Hid (∀ W bx, Both w.heap.size w W bd bm bx (stOf pl none) DS.new (fun k => k < w.heap.size) → Calls Try.prog 16 #[.pointer (some ⟨bd, 0, none⟩), .pointer (some ⟨bx, 0, none⟩), .agg x.cells.toArray] W fun e w' => e = .returned (.bool (((stOf pl none).step x.a).2 == (DS.new.step x.a).2)) ∧ BothTo w.heap.size w W w' bd bm bx ((stOf pl none).step x.a).1 (DS.new.step x.a).1 (fun k => k < w.heap.size)) := show ∀ W bx, _ from fun W bx hB =>
        do_any hB x HXO.out.name HXO.out.to_ HXO.out.s HXO.out.n (HXO.out.keep.below hB.below fun b hb => hb)
      obtain ⟨⟨kd, nm, to_, ss, nn, ks'⟩, kv'⟩ := x
      have f0 : (0 : Int) ≤ i := by omega
      have f1 : (i : Int) < n := by omega
      have f2 : decide ((i : Int) < n) = true := decide_eq_true f1
      have f3 : decide ((i : Int) < 60) = true := decide_eq_true (by omega)
      have f3' : decide (i < 60) = true := decide_eq_true (by omega)
      have KEEP : Hid (∀ wr : World, Below w.heap.size w wr → wr.cell? ⟨gb, go_ + i * 6, none⟩ = some (.int .i64 kd) ∧ wr.cell? ⟨gb, go_ + i * 6 + 1, none⟩ = some (.string nm) ∧ wr.cell? ⟨gb, go_ + i * 6 + 2, none⟩ = some (.string to_) ∧ wr.cell? ⟨gb, go_ + i * 6 + 3, none⟩ = some (.string ss) ∧ wr.cell? ⟨gb, go_ + i * 6 + 4, none⟩ = some (.int .i64 nn) ∧ wr.cell? ⟨gb, go_ + i * 6 + 5, none⟩ = some kv') := show ∀ wr, _ from fun wr hb =>
        ⟨HCL.out wr hb 0 _ rfl, HCL.out wr hb 1 _ rfl, HCL.out wr hb 2 _ rfl, HCL.out wr hb 3 _ rfl, HCL.out wr hb 4 _ rfl, HCL.out wr hb 5 _ rfl⟩
      obtain ⟨c0, c1, c2, c3, c4, c5⟩ := KEEP.out wr HD.out.below
      clear hc hx r9 e92 hgl
      by_cases g3 : kd = 5
      · have q3 : (kd != 5) = false := by simpa using g3
        clear g3
        go_wp2_with fail
        go_roundw
        case rel => exact ⟨i + 1, pl, by go_num, by omega, by omega, HD⟩
        case measure => simp; omega
      · have q3 : (kd != 5) = true := by simpa using g3
        have HST2 := Lib.hid (HST.out g3)
        clear g3
        go_wp2_with fail
        refine wp_region_held_drew (S := fun W => W.cell? ⟨gb, go_ + i * 6, none⟩ = some (.int .i64 kd) ∧ W.cell? ⟨gb, go_ + i * 6 + 1, none⟩ = some (.string nm) ∧ W.cell? ⟨gb, go_ + i * 6 + 2, none⟩ = some (.string to_) ∧ W.cell? ⟨gb, go_ + i * 6 + 3, none⟩ = some (.string ss) ∧ W.cell? ⟨gb, go_ + i * 6 + 4, none⟩ = some (.int .i64 nn) ∧ W.cell? ⟨gb, go_ + i * 6 + 5, none⟩ = some kv') (by kernel_rfl) ⟨c0, c1, c2, c3, c4, c5⟩ (fun _ => ?_)
        clear c0 c1 c2 c3 c4 c5
        refine rg_gen (i := 0) (v := ?_) rfl (by kernel_rfl) (by kernel_rfl) (by kernel_rfl) (fun _ _ _ h => h) rfl (by rfl) ?_ (by assumption) ?_
        rotate_left
        · intro w hSw
          try dsimp only at hSw
          go_simp
          try with_reducible rfl
        try simp only [Act.put, List.setIfInBounds_toArray, List.set_cons_zero, List.set_cons_succ]
        refine rg_gen (i := 2) (v := ?_) rfl (by kernel_rfl) (by kernel_rfl) (by kernel_rfl) (fun _ _ _ h => h) rfl (by rfl) ?_ (by assumption) ?_
        rotate_left
        · intro w hSw
          try dsimp only at hSw
          go_simp
          try with_reducible rfl
        try simp only [Act.put, List.setIfInBounds_toArray, List.set_cons_zero, List.set_cons_succ]
        refine rg_gen (i := 3) (v := ?_) rfl (by kernel_rfl) (by kernel_rfl) (by kernel_rfl) (fun _ _ _ h => h) rfl (by rfl) ?_ (by assumption) ?_
        rotate_left
        · intro w hSw
          try dsimp only at hSw
          go_simp
          try with_reducible rfl
        try simp only [Act.put, List.setIfInBounds_toArray, List.set_cons_zero, List.set_cons_succ]
        refine rg_gen (i := 4) (v := ?_) rfl (by kernel_rfl) (by kernel_rfl) (by kernel_rfl) (fun _ _ _ h => h) rfl (by rfl) ?_ (by assumption) ?_
        rotate_left
        · intro w hSw
          try dsimp only at hSw
          go_simp
          try with_reducible rfl
        try simp only [Act.put, List.setIfInBounds_toArray, List.set_cons_zero, List.set_cons_succ]
        refine rg_gen (i := 5) (v := ?_) rfl (by kernel_rfl) (by kernel_rfl) (by kernel_rfl) (fun _ _ _ h => h) rfl (by rfl) ?_ (by assumption) ?_
        rotate_left
        · intro w hSw
          try dsimp only at hSw
          go_simp
          try with_reducible rfl
        try simp only [Act.put, List.setIfInBounds_toArray, List.set_cons_zero, List.set_cons_succ]
        have HDd := Lib.hid (HD.out.next (Below.refl wr.heap.size wr).drew)
        refine rg_one (i := 1) (by kernel_rfl) rfl (fun K hK => ?_)
        go_simp
        go_at_call 17
        refine (xnew_any w.heap.size wr.drew HDd.out.below.size).mono ?_
        rintro e w5 ⟨rfl, hX5, hb5⟩
        have HB5 := Lib.hid (both_new HDd.out hX5 hb5)
        clear hX5 hb5
        go_wp2_with fail
        refine hK.out _ _ (KEEP.out _ HB5.out.below) (fun _ => ?_)
        clear hK K
        try simp only [Act.put, List.setIfInBounds_toArray, List.set_cons_zero, List.set_cons_succ]
        refine rg_one (i := 6) (by kernel_rfl) rfl (fun K hK => ?_)
        go_simp
        go_at_call 16
        refine (HDO.out _ _ HB5.out).mono ?_
        rintro e w6 ⟨rfl, hB6⟩
        obtain ⟨pl6, l6, v6, hs6, hD6, -⟩ := hB6.both
        obtain rfl : l6 = none := by
          have h := HST2.out
          rw [← hs6] at h
          exact h
        have HD6 := Lib.hid hD6
        clear hB6 hs6 hD6
        go_wp2_with fail
        refine hK.out _ _ (KEEP.out _ HD6.out.below) (fun _ => ?_)
        clear hK K
        refine wpAnyH_done (by kernel_rfl) ?_ _
        go_wp2_with fail
        go_roundw
        case rel => exact ⟨i + 1, pl6, by go_num, by omega, by omega, HD6⟩
        case measure => simp; omega
    · skip
      by_cases h1 : i < n
      · have h60 : i = 60 := by omega
        subst h60
        have f2 : decide ((60 : Nat) < (n : Int)) = true := decide_eq_true (by omega)
        have f2' : decide ((60 : Int) < n) = true := decide_eq_true (by omega)
        clear hlt
        simp only [show ((60 : Nat) : Int) = 60 from rfl]
        have HNM := names_any wr HD.out
        rw [names_up (d := stOf pl none) rfl] at HNM
        have HNM := Lib.hid HNM
        go_wp2_with fail
        refine HNM.out.mono ?_
        rintro e w3 ⟨u3, rfl, hO3, hb3⟩
        obtain ⟨q3, c3, rfl⟩ := own_shape hO3
        obtain ⟨NB, hNB⟩ : ∃ NB, NB = wr.heap.size := ⟨_, rfl⟩
        have HLT : Hid (∀ k, Its bd bm pl k → k < NB) := show ∀ k, _ from fun k hk => by rw [hNB]; exact HD.out.its_lt hk
        have HN3 : Hid (NB ≤ w3.heap.size) := show _ ≤ _ from by rw [hNB]; exact hb3.size
        rw [← hNB] at hO3
        have HR3 := Lib.hid (RdIn.of_own hO3)
        have HD3 := Lib.hid (HD.out.next hb3)
        have hm8 := HD.out.len
        obtain ⟨m, hm⟩ : ∃ m, m = pl.length := ⟨_, rfl⟩
        have hml : ((stOf pl none).fs.map FE.nm).length = m := by rw [hm, List.length_map]; exact List.length_map ..
        rw [hml] at HR3 ⊢
        rw [← hm] at hm8
        have HM := Lib.hid hm
        clear hO3 hb3 hml hm hNB
        go_wp2_with fail
        have HW0 : Hid (WsAt w3 w3 (.slice none 0 0) (.slice none 0 0) 0 (stOf pl none).fs) := show WsAt _ _ _ _ _ _ from ⟨Below.refl _ _, own_nil _ _ _ _, own_nil _ _ _ _, fun k hk => by cases hk⟩
        go_loopw [8, 9, 10] (fun u_ v_ j_ wx => ∃ j : Nat, j_ = .int .i64 j ∧ j ≤ m ∧ Hid (WsAt w3 wx u_ v_ j (stOf pl none).fs)) (fun _ _ j_ _ => match j_ with | .int _ k => m - k.toNat | _ => 0)
        case atStart => exact ⟨0, rfl, Nat.zero_le _, HW0⟩
        case round =>
          obtain ⟨j, rfl, hjm, HW⟩ := hrel
          have HRx := Lib.hid (HR3.out.kept HW.out.b.size fun b hb _ => HW.out.b.block b hb)
          have HDx := Lib.hid (HD3.out.next HW.out.b)
          by_cases hjl : j < m
          · have hjp : j < (stOf pl none).fs.length := by
              have : (stOf pl none).fs.length = pl.length := List.length_map ..
              have := HM.out
              omega
            obtain ⟨A4, c4, e4, r4⟩ := HRx.out
            injection e4 with e41 e42 e43
            subst e41 e43
            obtain ⟨g4, o4, hA4, hb4, -, hc4⟩ := r4 j (by rw [List.length_map, List.length_map]; exact hjp)
            subst hA4
            obtain ⟨f, hf⟩ : ∃ f, f = (stOf pl none).fs[j]'hjp := ⟨_, rfl⟩
            have kn : wr.cell? ⟨g4, o4 + j, none⟩ = some (.string (bstr f.nm)) := by rw [hc4, List.getElem_map, List.getElem_map, ← hf]; rfl
            have HF : Hid ((stOf pl none).fs[j]? = some f) := show _ = _ from by rw [hf]; exact List.getElem?_eq_getElem hjp
            have hlk : (stOf pl none).look f.nm = (f.b, f.safe, 0) := look_up rfl (by rw [hf]; exact find_at HDx.out.wf.rising hjp)
            have hfo := HDx.out.wf.files f (by rw [hf]; exact List.getElem_mem hjp)
            have hns : (bstr f.nm).size ≤ 140737488355328 := by
              have h9 := hfo.1
              unfold isWord at h9
              simp only [Bool.and_eq_true, decide_eq_true_eq] at h9
              rw [bstr_size]
              omega
            have HRD := read_any wr HDx.out (bstr f.nm) hns
            have HSF := safe_any wr HDx.out (bstr f.nm) hns
            rw [bstr_toList, hlk] at HRD HSF
            have HRD := Lib.hid HRD
            have HSF := Lib.hid HSF
            have f0 : (0 : Int) ≤ j := by omega
            have f1 : (j : Int) < m := by omega
            have hw3 := HW.out.b.size
            clear hc4 hf hlk hfo hns r4 e42 hb4 hjp
            go_wp2_with fail
            refine HRD.out.mono ?_
            rintro e w5 ⟨rfl, rfl⟩
            go_wp2_with fail
            refine HSF.out.mono ?_
            rintro e w6 ⟨rfl, rfl⟩
            go_wp2_with (first
              | ((at_builtin; refine wpList_append_own2 rfl (.tmp 76) (.tmp 78) 29 rfl w3.heap.size 9 is_ (.string ⟨#[]⟩) 1 16 Try.underlying29 hi hz0 hz1 hz2 rfl (by decide) _ _ _ rfl (HW.out.us.alloc _) ⟨w6.heap.size, 0, none⟩ 1 1 [.string f.b] rfl rfl (news3 _ _ _) (by simp [Value.oneCell']) (by unfold maxLen; omega) (by omega) (by simp; omega) ?_); intro u7 w7 hO7 hg7 hn7; have HMID := Lib.hid (HW.out.mid hg7); have hs7 : w6.heap.size + 1 ≤ w7.heap.size := (by have := hg7.size; simpa using this); have HO7 := Lib.hid hO7; have HG7 := Lib.hid hg7; have HN7 := Lib.hid hn7; clear hO7 hg7 hn7; go_frame)
              | ((at_builtin; refine wpList_append_own2 rfl (.tmp 80) (.tmp 82) 32 rfl w3.heap.size 3 ii (.int .i64 0) 1 8 Try.underlying32 hj hj0 hj1 hj2 rfl (by decide) _ _ _ rfl (HMID.out.alloc _) ⟨w7.heap.size, 0, none⟩ 1 1 [.int .i64 (f.safe : Int)] rfl rfl (news3 _ _ _) (by simp [Value.oneCell']) (by unfold maxLen; omega) (by omega) (by simp; omega) ?_); intro u8 w8 hO8 hg8 hn8; have HW8 := Lib.hid (HW.out.app HF.out HO7.out HG7.out HN7.out hO8 hg8 hn8); clear hO8 hg8 hn8; go_frame))
            go_roundw
            case rel => exact ⟨j + 1, by go_num, by omega, HW8⟩
            case measure => simp; omega
          · have hje : j = m := by omega
            subst hje
            have d0 : decide ((j : Int) < j) = false := decide_eq_false (by omega)
            have hfl : (stOf pl none).fs.length = j := by rw [HM.out]; exact List.length_map ..
            have hu := HW.out.us
            have hv := HW.out.vs
            rw [List.take_of_length_le (by omega)] at hu hv
            obtain ⟨qu, cu, rfl⟩ := own_shape hu
            obtain ⟨qv, cv, rfl⟩ := own_shape hv
            have HU := Lib.hid ((RdIn.of_own hu).mono (T := fun b => NB ≤ b) fun b _ hb => Nat.le_trans HN3.out hb)
            have HV := Lib.hid ((RdIn.of_own hv).mono (T := fun b => NB ≤ b) fun b _ hb => Nat.le_trans HN3.out hb)
            have hkx : RdIn wr kv (ks.map fun k => .int .i64 k) (fun b => ¬ Its bd bm pl b) := (HKV.out.below HDx.out.below fun b hb => hb).mono fun b _ hb hi => by
              rcases hi with rfl | rfl | ⟨p, hp, rfl⟩
              · exact absurd HDx.out.lo.1 (by omega)
              · exact absurd HDx.out.lo.2.1 (by omega)
              · exact absurd (HDx.out.lo.2.2 p hp) (by omega)
            have HCR := Lib.hid (crash_any wr HDx.out kv ks hkx)
            clear hu hv hkx
            go_wp2_with fail
            refine HCR.out.mono ?_
            rintro e w5 ⟨rfl, hT⟩
            obtain ⟨⟨p5, l5, hD5, hS5, -⟩, hT5⟩ := hT
            have HR5 := Lib.hid (HRx.out.turn hT5 fun b _ hb h => by have := HLT.out b h; omega)
            have HU5 := Lib.hid (HU.out.turn hT5 fun b _ hb h => by have := HLT.out b h; omega)
            have HV5 := Lib.hid (HV.out.turn hT5 fun b _ hb h => by have := HLT.out b h; omega)
            have HNM5 := names_any w5 hD5
            have hn5 : (stOf p5 l5).names = (stOf pl none).fs.map FE.nm := by rw [hS5]; exact (names_up rfl).trans (crashL_nm _ _)
            have HD5 := Lib.hid hD5
            have HS5 := Lib.hid hS5
            rw [hn5] at HNM5
            have hfl2 : ((stOf pl none).fs.map FE.nm).length = j := by rw [List.length_map, hfl]
            rw [hfl2] at HNM5
            have HNM5 := Lib.hid HNM5
            clear hT5 hD5 hS5 hn5 hfl2
            go_wp2_with fail
            refine HNM5.out.mono ?_
            rintro e w6 ⟨u6, rfl, hO6, hb6⟩
            obtain ⟨q6, c6, rfl⟩ := own_shape hO6
            have HR6 := Lib.hid (HR5.out.kept hb6.size fun b hb _ => hb6.block b hb)
            have HU6 := Lib.hid (HU5.out.kept hb6.size fun b hb _ => hb6.block b hb)
            have HV6 := Lib.hid (HV5.out.kept hb6.size fun b hb _ => hb6.block b hb)
            have HD6 := Lib.hid (HD5.out.next hb6)
            have HSM := rsame_any _ _ _ _ w6 HR6.out (RdIn.of_own hO6) (by rw [List.length_map, hfl]; omega)
            rw [decide_eq_true rfl] at HSM
            have HSM := Lib.hid HSM
            clear hO6 hb6
            go_wp2_with fail
            refine HSM.out.mono ?_
            rintro e w7 ⟨rfl, hb7⟩
            have HR7 := Lib.hid (HR6.out.kept hb7.size fun b hb _ => hb7.block b hb)
            have HU7 := Lib.hid (HU6.out.kept hb7.size fun b hb _ => hb7.block b hb)
            have HV7 := Lib.hid (HV6.out.kept hb7.size fun b hb _ => hb7.block b hb)
            have HD7 := Lib.hid (HD6.out.next hb7)
            have HWF := Lib.hid HD.out.wf
            have HFL := Lib.hid hfl
            clear hb7 hfl
            go_wp2_with fail
            go_loopw [15] (fun k_ wx => ∃ k : Nat, k_ = .int .i64 k ∧ k ≤ j ∧ wx = w7) (fun k_ _ => match k_ with | .int _ x => j - x.toNat | _ => 0)
            case atStart => exact ⟨0, rfl, Nat.zero_le _, rfl⟩
            case round =>
              obtain ⟨k, rfl, hkj, rfl⟩ := hrel
              by_cases hkl : k < j
              · have hkp : k < (stOf pl none).fs.length := by have := HFL.out; omega
                obtain ⟨A4, c4, e4, r4⟩ := HR7.out
                injection e4 with e41 e42 e43
                subst e41 e43
                obtain ⟨g4, o4, hA4, hb4, -, hc4⟩ := r4 k (by rw [List.length_map, List.length_map]; exact hkp)
                subst hA4
                obtain ⟨A5, c5, e5, r5⟩ := HU7.out
                injection e5 with e51 e52 e53
                subst e51 e53
                obtain ⟨g5, o5, hA5, hb5, -, hc5⟩ := r5 k (by rw [List.length_map]; exact hkp)
                subst hA5
                obtain ⟨A6, c6, e6, r6⟩ := HV7.out
                injection e6 with e61 e62 e63
                subst e61 e63
                obtain ⟨g6, o6, hA6, hb6, -, hc6⟩ := r6 k (by rw [List.length_map]; exact hkp)
                subst hA6
                obtain ⟨f, hf⟩ : ∃ f, f = (stOf pl none).fs[k]'hkp := ⟨_, rfl⟩
                have kn : wr.cell? ⟨g4, o4 + k, none⟩ = some (.string (bstr f.nm)) := by rw [hc4, List.getElem_map, List.getElem_map, ← hf]; rfl
                have ku : wr.cell? ⟨g5, o5 + k, none⟩ = some (.string f.b) := by rw [hc5, List.getElem_map, ← hf]
                have kv' : wr.cell? ⟨g6, o6 + k, none⟩ = some (.int .i64 (f.safe : Int)) := by rw [hc6, List.getElem_map, ← hf]
                obtain ⟨f', hfi, hs1, hs2, hs3, hs4⟩ := crash_safe HWF.out ks hkp
                rw [← hf] at hfi hs2 hs3 hs4
                have hlk : (stOf p5 l5).look f.nm = (f'.b, f'.safe, 0) := by rw [HS5.out]; exact look_up rfl hfi
                have hfo := HWF.out.files f (by rw [hf]; exact List.getElem_mem hkp)
                have hns : (bstr f.nm).size ≤ 140737488355328 := by
                  have h9 := hfo.1
                  unfold isWord at h9
                  simp only [Bool.and_eq_true, decide_eq_true_eq] at h9
                  rw [bstr_size]
                  omega
                have HRD := read_any wr HD7.out (bstr f.nm) hns
                have HSF := safe_any wr HD7.out (bstr f.nm) hns
                rw [bstr_toList, hlk] at HRD HSF
                have HRD := Lib.hid HRD
                have HSF := Lib.hid HSF
                obtain ⟨sb, hsb⟩ : ∃ sb, sb = f'.b := ⟨_, rfl⟩
                obtain ⟨sn, hsn⟩ : ∃ sn, sn = f'.safe := ⟨_, rfl⟩
                rw [← hsb, ← hsn] at HRD HSF
                rw [← hsn] at hs1 hs2 hs3 hs4
                rw [← hsb] at hs1 hs4
                have q1 : ((sn : Int) != (sb.size : Int)) = false := by rw [hs1]; exact bne_self_eq_false _
                have q2 : decide ((sn : Int) < f.safe) = false := decide_eq_false (by omega)
                have q2' : decide (sn < f.safe) = false := decide_eq_false (by omega)
                have q3 : decide ((f.b.size : Int) < sn) = false := decide_eq_false (by omega)
                have q3' : decide (f.b.size < sn) = false := decide_eq_false (by omega)
                have q4 : (sb.toList == (f.b.extract 0 sn).toList) = true := by rw [hs4]; exact beq_self_eq_true _
                have f0 : (0 : Int) ≤ k := by omega
                have f1 : (k : Int) < j := by omega
                have f2 : (0 : Int) ≤ sn := by omega
                have f3 : (sn : Int) ≤ f.b.size := by omega
                clear hc4 hc5 hc6 hf hfi hs1 hs2 hs3 hs4 hlk hfo hns r4 r5 r6 e42 e52 e62 hb4 hb5 hb6 hkp hsb hsn
                go_wp2_with fail
                refine HRD.out.mono ?_
                rintro e w10 ⟨rfl, rfl⟩
                go_wp2_with fail
                refine HSF.out.mono ?_
                rintro e w11 ⟨rfl, rfl⟩
                go_wp2_with fail
                go_roundw
                case rel => exact ⟨k + 1, by go_num, by omega, trivial⟩
                case measure => simp; omega
              · have hke : k = j := by omega
                subst hke
                have d0 : decide ((k : Int) < k) = false := decide_eq_false (by omega)
                go_wp2_with fail
                go_ret
                exact ⟨rfl, HD7.out.below⟩
      · have hie : i = n := by omega
        subst hie
        have f2 : decide ((i : Int) < i) = false := decide_eq_false (by omega)
        clear hlt
        have HNM := names_any wr HD.out
        rw [names_up (d := stOf pl none) rfl] at HNM
        have HNM := Lib.hid HNM
        go_wp2_with fail
        refine HNM.out.mono ?_
        rintro e w3 ⟨u3, rfl, hO3, hb3⟩
        obtain ⟨q3, c3, rfl⟩ := own_shape hO3
        obtain ⟨NB, hNB⟩ : ∃ NB, NB = wr.heap.size := ⟨_, rfl⟩
        have HLT : Hid (∀ k, Its bd bm pl k → k < NB) := show ∀ k, _ from fun k hk => by rw [hNB]; exact HD.out.its_lt hk
        have HN3 : Hid (NB ≤ w3.heap.size) := show _ ≤ _ from by rw [hNB]; exact hb3.size
        rw [← hNB] at hO3
        have HR3 := Lib.hid (RdIn.of_own hO3)
        have HD3 := Lib.hid (HD.out.next hb3)
        have hm8 := HD.out.len
        obtain ⟨m, hm⟩ : ∃ m, m = pl.length := ⟨_, rfl⟩
        have hml : ((stOf pl none).fs.map FE.nm).length = m := by rw [hm, List.length_map]; exact List.length_map ..
        rw [hml] at HR3 ⊢
        rw [← hm] at hm8
        have HM := Lib.hid hm
        clear hO3 hb3 hml hm hNB
        go_wp2_with fail
        have HW0 : Hid (WsAt w3 w3 (.slice none 0 0) (.slice none 0 0) 0 (stOf pl none).fs) := show WsAt _ _ _ _ _ _ from ⟨Below.refl _ _, own_nil _ _ _ _, own_nil _ _ _ _, fun k hk => by cases hk⟩
        go_loopw [8, 9, 10] (fun u_ v_ j_ wx => ∃ j : Nat, j_ = .int .i64 j ∧ j ≤ m ∧ Hid (WsAt w3 wx u_ v_ j (stOf pl none).fs)) (fun _ _ j_ _ => match j_ with | .int _ k => m - k.toNat | _ => 0)
        case atStart => exact ⟨0, rfl, Nat.zero_le _, HW0⟩
        case round =>
          obtain ⟨j, rfl, hjm, HW⟩ := hrel
          have HRx := Lib.hid (HR3.out.kept HW.out.b.size fun b hb _ => HW.out.b.block b hb)
          have HDx := Lib.hid (HD3.out.next HW.out.b)
          by_cases hjl : j < m
          · have hjp : j < (stOf pl none).fs.length := by
              have : (stOf pl none).fs.length = pl.length := List.length_map ..
              have := HM.out
              omega
            obtain ⟨A4, c4, e4, r4⟩ := HRx.out
            injection e4 with e41 e42 e43
            subst e41 e43
            obtain ⟨g4, o4, hA4, hb4, -, hc4⟩ := r4 j (by rw [List.length_map, List.length_map]; exact hjp)
            subst hA4
            obtain ⟨f, hf⟩ : ∃ f, f = (stOf pl none).fs[j]'hjp := ⟨_, rfl⟩
            have kn : wr.cell? ⟨g4, o4 + j, none⟩ = some (.string (bstr f.nm)) := by rw [hc4, List.getElem_map, List.getElem_map, ← hf]; rfl
            have HF : Hid ((stOf pl none).fs[j]? = some f) := show _ = _ from by rw [hf]; exact List.getElem?_eq_getElem hjp
            have hlk : (stOf pl none).look f.nm = (f.b, f.safe, 0) := look_up rfl (by rw [hf]; exact find_at HDx.out.wf.rising hjp)
            have hfo := HDx.out.wf.files f (by rw [hf]; exact List.getElem_mem hjp)
            have hns : (bstr f.nm).size ≤ 140737488355328 := by
              have h9 := hfo.1
              unfold isWord at h9
              simp only [Bool.and_eq_true, decide_eq_true_eq] at h9
              rw [bstr_size]
              omega
            have HRD := read_any wr HDx.out (bstr f.nm) hns
            have HSF := safe_any wr HDx.out (bstr f.nm) hns
            rw [bstr_toList, hlk] at HRD HSF
            have HRD := Lib.hid HRD
            have HSF := Lib.hid HSF
            have f0 : (0 : Int) ≤ j := by omega
            have f1 : (j : Int) < m := by omega
            have hw3 := HW.out.b.size
            clear hc4 hf hlk hfo hns r4 e42 hb4 hjp
            go_wp2_with fail
            refine HRD.out.mono ?_
            rintro e w5 ⟨rfl, rfl⟩
            go_wp2_with fail
            refine HSF.out.mono ?_
            rintro e w6 ⟨rfl, rfl⟩
            go_wp2_with (first
              | ((at_builtin; refine wpList_append_own2 rfl (.tmp 76) (.tmp 78) 29 rfl w3.heap.size 9 is_ (.string ⟨#[]⟩) 1 16 Try.underlying29 hi hz0 hz1 hz2 rfl (by decide) _ _ _ rfl (HW.out.us.alloc _) ⟨w6.heap.size, 0, none⟩ 1 1 [.string f.b] rfl rfl (news3 _ _ _) (by simp [Value.oneCell']) (by unfold maxLen; omega) (by omega) (by simp; omega) ?_); intro u7 w7 hO7 hg7 hn7; have HMID := Lib.hid (HW.out.mid hg7); have hs7 : w6.heap.size + 1 ≤ w7.heap.size := (by have := hg7.size; simpa using this); have HO7 := Lib.hid hO7; have HG7 := Lib.hid hg7; have HN7 := Lib.hid hn7; clear hO7 hg7 hn7; go_frame)
              | ((at_builtin; refine wpList_append_own2 rfl (.tmp 80) (.tmp 82) 32 rfl w3.heap.size 3 ii (.int .i64 0) 1 8 Try.underlying32 hj hj0 hj1 hj2 rfl (by decide) _ _ _ rfl (HMID.out.alloc _) ⟨w7.heap.size, 0, none⟩ 1 1 [.int .i64 (f.safe : Int)] rfl rfl (news3 _ _ _) (by simp [Value.oneCell']) (by unfold maxLen; omega) (by omega) (by simp; omega) ?_); intro u8 w8 hO8 hg8 hn8; have HW8 := Lib.hid (HW.out.app HF.out HO7.out HG7.out HN7.out hO8 hg8 hn8); clear hO8 hg8 hn8; go_frame))
            go_roundw
            case rel => exact ⟨j + 1, by go_num, by omega, HW8⟩
            case measure => simp; omega
          · have hje : j = m := by omega
            subst hje
            have d0 : decide ((j : Int) < j) = false := decide_eq_false (by omega)
            have hfl : (stOf pl none).fs.length = j := by rw [HM.out]; exact List.length_map ..
            have hu := HW.out.us
            have hv := HW.out.vs
            rw [List.take_of_length_le (by omega)] at hu hv
            obtain ⟨qu, cu, rfl⟩ := own_shape hu
            obtain ⟨qv, cv, rfl⟩ := own_shape hv
            have HU := Lib.hid ((RdIn.of_own hu).mono (T := fun b => NB ≤ b) fun b _ hb => Nat.le_trans HN3.out hb)
            have HV := Lib.hid ((RdIn.of_own hv).mono (T := fun b => NB ≤ b) fun b _ hb => Nat.le_trans HN3.out hb)
            have hkx : RdIn wr kv (ks.map fun k => .int .i64 k) (fun b => ¬ Its bd bm pl b) := (HKV.out.below HDx.out.below fun b hb => hb).mono fun b _ hb hi => by
              rcases hi with rfl | rfl | ⟨p, hp, rfl⟩
              · exact absurd HDx.out.lo.1 (by omega)
              · exact absurd HDx.out.lo.2.1 (by omega)
              · exact absurd (HDx.out.lo.2.2 p hp) (by omega)
            have HCR := Lib.hid (crash_any wr HDx.out kv ks hkx)
            clear hu hv hkx
            go_wp2_with fail
            refine HCR.out.mono ?_
            rintro e w5 ⟨rfl, hT⟩
            obtain ⟨⟨p5, l5, hD5, hS5, -⟩, hT5⟩ := hT
            have HR5 := Lib.hid (HRx.out.turn hT5 fun b _ hb h => by have := HLT.out b h; omega)
            have HU5 := Lib.hid (HU.out.turn hT5 fun b _ hb h => by have := HLT.out b h; omega)
            have HV5 := Lib.hid (HV.out.turn hT5 fun b _ hb h => by have := HLT.out b h; omega)
            have HNM5 := names_any w5 hD5
            have hn5 : (stOf p5 l5).names = (stOf pl none).fs.map FE.nm := by rw [hS5]; exact (names_up rfl).trans (crashL_nm _ _)
            have HD5 := Lib.hid hD5
            have HS5 := Lib.hid hS5
            rw [hn5] at HNM5
            have hfl2 : ((stOf pl none).fs.map FE.nm).length = j := by rw [List.length_map, hfl]
            rw [hfl2] at HNM5
            have HNM5 := Lib.hid HNM5
            clear hT5 hD5 hS5 hn5 hfl2
            go_wp2_with fail
            refine HNM5.out.mono ?_
            rintro e w6 ⟨u6, rfl, hO6, hb6⟩
            obtain ⟨q6, c6, rfl⟩ := own_shape hO6
            have HR6 := Lib.hid (HR5.out.kept hb6.size fun b hb _ => hb6.block b hb)
            have HU6 := Lib.hid (HU5.out.kept hb6.size fun b hb _ => hb6.block b hb)
            have HV6 := Lib.hid (HV5.out.kept hb6.size fun b hb _ => hb6.block b hb)
            have HD6 := Lib.hid (HD5.out.next hb6)
            have HSM := rsame_any _ _ _ _ w6 HR6.out (RdIn.of_own hO6) (by rw [List.length_map, hfl]; omega)
            rw [decide_eq_true rfl] at HSM
            have HSM := Lib.hid HSM
            clear hO6 hb6
            go_wp2_with fail
            refine HSM.out.mono ?_
            rintro e w7 ⟨rfl, hb7⟩
            have HR7 := Lib.hid (HR6.out.kept hb7.size fun b hb _ => hb7.block b hb)
            have HU7 := Lib.hid (HU6.out.kept hb7.size fun b hb _ => hb7.block b hb)
            have HV7 := Lib.hid (HV6.out.kept hb7.size fun b hb _ => hb7.block b hb)
            have HD7 := Lib.hid (HD6.out.next hb7)
            have HWF := Lib.hid HD.out.wf
            have HFL := Lib.hid hfl
            clear hb7 hfl
            go_wp2_with fail
            go_loopw [15] (fun k_ wx => ∃ k : Nat, k_ = .int .i64 k ∧ k ≤ j ∧ wx = w7) (fun k_ _ => match k_ with | .int _ x => j - x.toNat | _ => 0)
            case atStart => exact ⟨0, rfl, Nat.zero_le _, rfl⟩
            case round =>
              obtain ⟨k, rfl, hkj, rfl⟩ := hrel
              by_cases hkl : k < j
              · have hkp : k < (stOf pl none).fs.length := by have := HFL.out; omega
                obtain ⟨A4, c4, e4, r4⟩ := HR7.out
                injection e4 with e41 e42 e43
                subst e41 e43
                obtain ⟨g4, o4, hA4, hb4, -, hc4⟩ := r4 k (by rw [List.length_map, List.length_map]; exact hkp)
                subst hA4
                obtain ⟨A5, c5, e5, r5⟩ := HU7.out
                injection e5 with e51 e52 e53
                subst e51 e53
                obtain ⟨g5, o5, hA5, hb5, -, hc5⟩ := r5 k (by rw [List.length_map]; exact hkp)
                subst hA5
                obtain ⟨A6, c6, e6, r6⟩ := HV7.out
                injection e6 with e61 e62 e63
                subst e61 e63
                obtain ⟨g6, o6, hA6, hb6, -, hc6⟩ := r6 k (by rw [List.length_map]; exact hkp)
                subst hA6
                obtain ⟨f, hf⟩ : ∃ f, f = (stOf pl none).fs[k]'hkp := ⟨_, rfl⟩
                have kn : wr.cell? ⟨g4, o4 + k, none⟩ = some (.string (bstr f.nm)) := by rw [hc4, List.getElem_map, List.getElem_map, ← hf]; rfl
                have ku : wr.cell? ⟨g5, o5 + k, none⟩ = some (.string f.b) := by rw [hc5, List.getElem_map, ← hf]
                have kv' : wr.cell? ⟨g6, o6 + k, none⟩ = some (.int .i64 (f.safe : Int)) := by rw [hc6, List.getElem_map, ← hf]
                obtain ⟨f', hfi, hs1, hs2, hs3, hs4⟩ := crash_safe HWF.out ks hkp
                rw [← hf] at hfi hs2 hs3 hs4
                have hlk : (stOf p5 l5).look f.nm = (f'.b, f'.safe, 0) := by rw [HS5.out]; exact look_up rfl hfi
                have hfo := HWF.out.files f (by rw [hf]; exact List.getElem_mem hkp)
                have hns : (bstr f.nm).size ≤ 140737488355328 := by
                  have h9 := hfo.1
                  unfold isWord at h9
                  simp only [Bool.and_eq_true, decide_eq_true_eq] at h9
                  rw [bstr_size]
                  omega
                have HRD := read_any wr HD7.out (bstr f.nm) hns
                have HSF := safe_any wr HD7.out (bstr f.nm) hns
                rw [bstr_toList, hlk] at HRD HSF
                have HRD := Lib.hid HRD
                have HSF := Lib.hid HSF
                obtain ⟨sb, hsb⟩ : ∃ sb, sb = f'.b := ⟨_, rfl⟩
                obtain ⟨sn, hsn⟩ : ∃ sn, sn = f'.safe := ⟨_, rfl⟩
                rw [← hsb, ← hsn] at HRD HSF
                rw [← hsn] at hs1 hs2 hs3 hs4
                rw [← hsb] at hs1 hs4
                have q1 : ((sn : Int) != (sb.size : Int)) = false := by rw [hs1]; exact bne_self_eq_false _
                have q2 : decide ((sn : Int) < f.safe) = false := decide_eq_false (by omega)
                have q2' : decide (sn < f.safe) = false := decide_eq_false (by omega)
                have q3 : decide ((f.b.size : Int) < sn) = false := decide_eq_false (by omega)
                have q3' : decide (f.b.size < sn) = false := decide_eq_false (by omega)
                have q4 : (sb.toList == (f.b.extract 0 sn).toList) = true := by rw [hs4]; exact beq_self_eq_true _
                have f0 : (0 : Int) ≤ k := by omega
                have f1 : (k : Int) < j := by omega
                have f2 : (0 : Int) ≤ sn := by omega
                have f3 : (sn : Int) ≤ f.b.size := by omega
                clear hc4 hc5 hc6 hf hfi hs1 hs2 hs3 hs4 hlk hfo hns r4 r5 r6 e42 e52 e62 hb4 hb5 hb6 hkp hsb hsn
                go_wp2_with fail
                refine HRD.out.mono ?_
                rintro e w10 ⟨rfl, rfl⟩
                go_wp2_with fail
                refine HSF.out.mono ?_
                rintro e w11 ⟨rfl, rfl⟩
                go_wp2_with fail
                go_roundw
                case rel => exact ⟨k + 1, by go_num, by omega, trivial⟩
                case measure => simp; omega
              · have hke : k = j := by omega
                subst hke
                have d0 : decide ((k : Int) < k) = false := decide_eq_false (by omega)
                go_wp2_with fail
                go_ret
                exact ⟨rfl, HD7.out.below⟩
end Go.Proofs.Ytopdhefhagckoaa
