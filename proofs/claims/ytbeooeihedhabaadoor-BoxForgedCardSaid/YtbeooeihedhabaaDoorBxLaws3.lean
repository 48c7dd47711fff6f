/- cavalcadelaw13.BoxForged: what the call does. -/
import Derived.Test.YtbeooeihedhabaaDoorBxLaws2
namespace Go.Proofs.YtbeooeihedhabaaDoor
open Go.RowKit
set_option maxHeartbeats 4000000
set_option maxRecDepth 4000
theorem OwnB.putB {B : Nat} {v : Value} {xs : List UInt8} {w : World} (h : OwnB B v xs w) {a : Nat} (ha : a < xs.length) (y : UInt8) : ∃ g c, v = .slice (some ⟨g, 0, none⟩) xs.length c ∧ w.cell? ⟨g, a, none⟩ = some (.int .u8 ((xs[a]'ha).toNat : Int)) ∧ w.frozen? ⟨g, a, none⟩ = false ∧ OwnB B v (xs.set a y) (w.setCell ⟨g, a, none⟩ (.int .u8 (y.toNat : Int))) ∧ B ≤ g := by
  obtain ⟨g, cap, rest, fr, rfl, hg, hh, hcap, hmax, hfr⟩ := h
  have hlen : (u8s xs ++ rest).length = cap := by rw [List.length_append, u8s_length, hcap]
  refine ⟨g, cap, rfl, ?_, ?_, ⟨g, cap, rest, fr, by rw [List.length_set], hg, ?_, by rw [List.length_set]; exact hcap, hmax, hfr⟩, hg⟩
  · rw [cell_of_row w g _ _ _ _ hh, List.getElem?_toArray, List.getElem?_append_left (by rw [u8s_length]; exact ha), u8s_get xs a ha]
  · obtain ⟨lo, hi⟩ := fr
    simp only [World.frozen?, hh, Bool.and_eq_false_iff, decide_eq_false_iff_not]
    simp only at hfr
    rcases hfr with hfr | hfr
    · right; omega
    · left; omega
  · have h2 := set_row (i := a) hh (.int .u8 (y.toNat : Int))
    rw [List.set_append_left _ _ (by rw [u8s_length]; exact ha)] at h2
    have h3 : (u8s xs).set a (.int .u8 (y.toNat : Int)) = u8s (xs.set a y) := by simp [u8s, List.map_set]
    rw [h3] at h2
    exact h2
theorem xor8b (a b : Nat) (ha : a < 256) (hb : b < 256) : bits .xor .u8 (a : Int) (b : Int) = ((a ^^^ b : Nat) : Int) := by
  have ha' : a % 2 ^ IntKind.u8.bits = a := Nat.mod_eq_of_lt ha
  have hb' : b % 2 ^ IntKind.u8.bits = b := Nat.mod_eq_of_lt hb
  have h3 : a ^^^ b < 256 := Nat.xor_lt_two_pow (n := 8) ha hb
  simp only [bits, BitVec.ofInt_natCast, BitVec.toNat_xor, BitVec.toNat_ofNat, ha', hb']
  exact IntWalk.u8_in _ (by omega)
theorem two_pow8b {k : Nat} (hk : k < 8) : (2 : Int) ^ k % 256 = ((2 ^ k : Nat) : Int) ∧ 2 ^ k < 256 ∧ 0 < 2 ^ k := by
  rcases (show k = 0 ∨ k = 1 ∨ k = 2 ∨ k = 3 ∨ k = 4 ∨ k = 5 ∨ k = 6 ∨ k = 7 by omega) with rfl | rfl | rfl | rfl | rfl | rfl | rfl | rfl <;> decide
theorem rdL_of_all {s : ByteArray} {ts : List ByteArray} (h : rdAll s = .ok ts) : rdL s.data.toList = .ok (ts, s.size) := by
  unfold rdAll at h
  split at h
  · cases h
  · rename_i us c hc
    split at h
    · rename_i hcs
      injection h with h
      subst h hcs
      exact hc
    · cases h
/-- a list of a crate and a tag that is not its own -/
theorem rdBox_forged {a : ByteArray} {k : List UInt8} (hk : k.length = 32) (ha : a.size ≤ 65504) (hne : tagOf 64 4 a.data.toList ≠ k) : rdBox (bstr (encList [a, bstr k])) = .error 21 := by
  have ht : tot [a, bstr k] ≤ 65536 := by
    have : tot [a, bstr k] = a.size + ((bstr k).size + 0) := by simp [tot]
    rw [this, bstr_size, hk]
    omega
  rw [rdBox_two (rdAll_enc (ls := [a, bstr k]) (show 2 ≤ 1024 by decide) ht), if_pos (by rw [bstr_size, hk]), if_neg (by rw [bstr_list]; exact hne)]
theorem rx_form {w : World} {r : Except Int BT} {e : Ending} {w' : World} (h : RbxRes w r e w') : ∃ x y z q n c k, e = .returned (.tuple #[.agg #[.int .i64 x, .int .i64 y, .int .i64 z, .slice q n c], .int .i64 k]) ∧ (r = .error 21 → k = 21 ∧ n = 0) := by
  cases r with
  | error x =>
    have h : e = .returned (.tuple #[.agg zlB.toArray, .int .i64 x]) := h
    exact ⟨0, 0, 0, none, 0, 0, x, h, fun e => by injection e with e; exact ⟨e, rfl⟩⟩
  | ok b =>
    obtain ⟨v, he, A, c, hv, _⟩ := h
    subst hv
    exact ⟨b.seq, b.first, b.before, A, _, c, 0, he, fun e => by cases e⟩
theorem boxForged_any (b : BT) (v : Value) (y : Nat) (o : ByteArray) (w : World) (hv : PtsAt w v b.parts) (hm : b.parts.length ≤ 140737488351232) (hs : ∀ p ∈ b.parts, p.text.size ≤ 140737488351232) (hy : y < 256) (ho : o.size ≤ 140737488355328) (hR : RoundsAt w) :
    Calls Tryd.prog 8 #[.agg (b.cells v).toArray, .int .u8 y, .string o] w fun e w' => e = .returned (.bool true) ∧ Below w.heap.size w w' := by
  obtain ⟨q, c, rfl⟩ := hv.shape
  have hb0 := bw_alloc (Below.refl w.heap.size w) (.cells (b.cells (.slice q b.parts.length c)).toArray 24)
  have hz := heap_alloc_new w (.cells (b.cells (.slice q b.parts.length c)).toArray 24)
  have HB0 := Lib.hid hb0
  have HZ := Lib.hid hz
  have HR := Lib.hid hR
  have HV := Lib.hid (hv.below hb0)
  have HL := light_any b _ _ (hv.below hb0) (Nat.le_trans hm (by decide)) (fun x hx => Nat.le_trans (hs x hx) (by decide))
  obtain ⟨g, hg⟩ : ∃ g, g = decide (weigh b.parts ≤ 600) := ⟨_, rfl⟩
  rw [← hg] at HL
  have HL := Lib.hid HL
  have HG := Lib.hid hg
  clear hb0 hv hm hs hR hg
  go_enter Tryd.func8, Tryd.ntmps8
  go_wp2_with
    (with_reducible refine wpList_load_rows rfl 24 (.tmp 3) rfl w.heap.size 0 (b.cells (.slice q b.parts.length c)) (b.cells (.slice q b.parts.length c)) 24 (0, 0) _ rfl (by assumption) id_at Tryd.underlying24 rfl (batch_info4 _ rfl) ?_)
  refine HL.out.mono ?_
  rintro e w1 ⟨rfl, hb1⟩
  have HB1 := Lib.hid (bw_call HB0.out hb1)
  have hz1 := (hb1.block _ (block_lt HZ.out)).trans HZ.out
  have HV1 := Lib.hid (HV.out.below hb1)
  clear hb1 hz HL HV
  cases g with
  | false =>
    go_wp2_with fail
    refine (awake13_any _ (HR.out.below HB1.out HR.out.1)).mono ?_
    rintro e w2 ⟨rfl, hb2⟩
    have HB2 := Lib.hid (bw_call HB1.out hb2)
    clear hb2
    go_wp2_with fail
    go_ret
    exact ⟨rfl, HB2.out⟩
  | true =>
    have hl : weigh b.parts ≤ 600 := by have := HG.out.symm; simpa using this
    have HLL := Lib.hid hl
    obtain ⟨S, hS⟩ : ∃ S, S = b.post.1 := ⟨_, rfl⟩
    obtain ⟨E, hE⟩ : ∃ E, E = b.post.2 := ⟨_, rfl⟩
    have HW := Lib.hid (post_any b _ w1 HV1.out hl (HR.out.below HB1.out HR.out.1))
    rw [← hS, ← hE] at HW
    have HSE := Lib.hid hS
    have HEE := Lib.hid hE
    clear hS hE hl
    go_wp2_with
      (with_reducible refine wpList_load_rows rfl 24 (.tmp 3) rfl w.heap.size 0 (b.cells (.slice q b.parts.length c)) (b.cells (.slice q b.parts.length c)) 24 (0, 0) _ rfl (by assumption) id_at Tryd.underlying24 rfl (batch_info4 _ rfl) ?_)
    refine HW.out.mono ?_
    rintro e w2 ⟨rfl, hb2⟩
    have HB2 := Lib.hid (bw_call HB1.out hb2)
    clear hb2 hz1
    go_wp2_with fail
    refine (awake13_any _ (HR.out.below HB2.out HR.out.1)).mono ?_
    rintro e w3 ⟨rfl, hb3⟩
    have HB3 := Lib.hid (bw_call HB2.out hb3)
    clear hb3
    by_cases hE0 : E = 0
    · have qe : (E != 0) = false := by rw [hE0]; rfl
      have hp0 : b.post.2 = 0 := HEE.out.symm.trans hE0
      obtain ⟨hw0, hpo⟩ := post_zero hp0
      have hcs := crate_size HLL.out hw0
      have hps := post_short HLL.out hp0
      obtain ⟨cl, hcl⟩ : ∃ cl, cl = packL b.wr.1.data.toList := ⟨_, rfl⟩
      rw [← hcl] at hpo hcs
      rw [← HSE.out] at hpo hps
      obtain ⟨K, hK⟩ : ∃ K, K = tagOf 64 4 cl := ⟨_, rfl⟩
      have hKl : K.length = 32 := by rw [hK]; exact tagOf_length _ _ _
      obtain ⟨C, hC⟩ : ∃ C, C = bstr cl := ⟨_, rfl⟩
      have hCl : C.data.toList = cl := by rw [hC, bstr_list]
      have hCs : C.size ≤ 65504 := by rw [hC, bstr_size]; omega
      have hra : rdAll S = .ok [C, bstr K] := by rw [hpo, hC, hK]; exact rdAll_post (by omega)
      have HRL : Hid (∀ W, Calls Tryd.prog 23 #[.string S, .int .i64 0] W fun e w' => (∃ v, e = .returned (.tuple #[v, .int .i64 S.size, .int .i64 0]) ∧ w'.ownsRow W.heap.size 9 1 v 2 (strs [C, bstr K])) ∧ Below W.heap.size W w') := show ∀ W, _ from fun W => by
        have h := rrl_any S 0 W (by omega) (Nat.zero_le _)
        rw [List.drop_zero, rdL_of_all hra] at h
        refine h.mono ?_
        rintro e w' ⟨h1, v, h2, h3⟩
        rw [Nat.zero_add] at h2
        exact ⟨⟨v, h2, h3⟩, h1⟩
      obtain ⟨a, ha⟩ : ∃ a, a = y / 8 := ⟨_, rfl⟩
      have ha32 : a < 32 := by omega
      have ea : (y : Int) / 8 = (a : Int) := by omega
      have ea2 : Int.tdiv (y : Int) 8 = (a : Int) := by rw [Int.tdiv_eq_ediv_of_nonneg (by omega)]; exact ea
      obtain ⟨k, hk⟩ : ∃ k, k = y % 8 := ⟨_, rfl⟩
      have ek : (y : Int) % 8 = (k : Int) := by omega
      have hk8 : k < 8 := by omega
      have HKK := Lib.hid hK
      have HCC := Lib.hid hCl
      have HKL := Lib.hid hKl
      have HPS := Lib.hid hps
      clear hE0 hp0 hw0 hpo hcs hps hcl hra hC hK hCl HW ha hk
      go_wp2_with fail
      refine (HRL.out _).mono ?_
      rintro e w4 ⟨⟨vl, rfl, hol⟩, hb4⟩
      obtain ⟨ql, cc, rfl⟩ := row_shape hol
      obtain ⟨gl, hql, hgll, g0, g1⟩ : ∃ g, ql = some ⟨g, 0, none⟩ ∧ g < w4.heap.size ∧ w4.cell? ⟨g, 0, none⟩ = some (.string C) ∧ w4.cell? ⟨g, 1, none⟩ = some (.string (bstr K)) := by
        rcases hol.2 with ⟨_, h0⟩ | ⟨g, cap, cur, he, hb, hg, _, _, _, ht⟩
        · cases h0
        · injection he with e1 e2 e3
          refine ⟨g, e1, block_lt hg, ?_, ?_⟩ <;> rw [cell_of_row _ _ _ _ _ _ hg, ← Array.getElem?_toList, ← List.getElem?_take_of_lt (show _ < 2 * 1 by decide), ht] <;> rfl
      subst hql
      have HB4 := Lib.hid (bw_call HB3.out hb4)
      clear hb4 hol
      obtain ⟨v0, W0, hcv, hO0, hB0⟩ := conv_own w4 (bstr K) (by rw [bstr_size, hKl]; decide)
      rw [bstr_list] at hO0
      obtain ⟨x, hx⟩ : ∃ x, x = K[a]'(by omega) := ⟨_, rfl⟩
      have hp8 := two_pow8b hk8
      obtain ⟨z, hz8⟩ : ∃ z, z = UInt8.ofNat (x.toNat ^^^ 2 ^ k) := ⟨_, rfl⟩
      have hzn : z.toNat = x.toNat ^^^ 2 ^ k := by
        rw [hz8]
        exact UInt8.toNat_ofNat_of_lt' (Nat.xor_lt_two_pow (n := 8) (byte_lt x) hp8.2.1)
      have hxor : bits .xor .u8 (x.toNat : Int) ((2 : Int) ^ k % 256) = (z.toNat : Int) := by rw [hp8.1, xor8b _ _ (byte_lt x) hp8.2.1, hzn]
      have hzx : z ≠ x := fun e => by
        rw [e] at hzn
        have h1 : x.toNat ^^^ 0 = x.toNat ^^^ 2 ^ k := by rw [Nat.xor_zero]; exact hzn
        have h2 := xor_cancel_left h1
        omega
      obtain ⟨g2, c2, hv2, hclx, hfz, hput, hgB⟩ := OwnB.putB hO0 (a := a) (by omega) z
      subst hv2
      rw [← hx] at hclx
      rw [hKl] at hcv
      obtain ⟨K2, hK2⟩ : ∃ K2, K2 = K.set a z := ⟨_, rfl⟩
      rw [← hK2] at hput
      have hK2l : K2.length = 32 := by rw [hK2, List.length_set, hKl]
      have hne : tagOf 64 4 C.data.toList ≠ K2 := fun e => by
        rw [HCC.out, ← HKK.out] at e
        have h1 : K[a]'(by omega) = K2[a]'(by omega) := by simp only [← e]
        rw [← hx] at h1
        have h2 : K2[a]'(by omega) = z := by simp only [hK2, List.getElem_set_self]
        exact hzx (h1.trans h2).symm
      obtain ⟨U, hU⟩ : ∃ U, U = bstr (encList [C, bstr K2]) := ⟨_, rfl⟩
      have hUb : rdBox U = .error 21 := by rw [hU]; exact rdBox_forged hK2l hCs hne
      have htot : tot [C, bstr K2] ≤ 65536 := by
        have : tot [C, bstr K2] = C.size + ((bstr K2).size + 0) := by simp [tot]
        rw [this, bstr_size, hK2l]
        omega
      have hUs : U.size ≤ 140737488355328 := by
        have h2 := encList_length (ls := [C, bstr K2]) (show 2 ≤ 1024 by decide) htot
        have h4 : [C, bstr K2].length = 2 := rfl
        rw [hU, bstr_size]
        omega
      rw [hKl] at hput hO0
      have HU := Lib.hid hU
      have HUB := Lib.hid hUb
      have HUS := Lib.hid hUs
      have HTT := Lib.hid htot
      have HK2 := Lib.hid hK2l
      have HPUT := Lib.hid hput
      have HB5 : Hid (Below w.heap.size w (W0.setCell ⟨g2, a, none⟩ (.int .u8 (z.toNat : Int)))) := show Below _ _ _ from (bw_call HB4.out hB0).setCell (Nat.le_trans HB4.out.size hgB) _
      have hB45 : Below w4.heap.size w4 (W0.setCell ⟨g2, a, none⟩ (.int .u8 (z.toNat : Int))) := hB0.setCell hgB _
      have f0 : (0 : Int) ≤ a := by omega
      have f1 : (a : Int) < 32 := by omega
      have m0 := (hB45.cell (p := ⟨gl, 0, none⟩) hgll).trans g0
      have m1 := (hB45.cell (p := ⟨gl, 1, none⟩) hgll).trans g1
      have hcv2 := hput.conv
      clear hU hUb hUs htot hne hK2 hzx hzn hp8 hz8 hO0 hx hput hK2l hB0
      have hcvN : (convert 48 9 (.slice (some ⟨g2, 0, none⟩) 32 c2)).run Tryd.prog (W0.setCell ⟨g2, a, none⟩ (.int .u8 (z.toNat : Int))) = .ok (.string (bstr K2)) (W0.setCell ⟨g2, a, none⟩ (.int .u8 (z.toNat : Int))) := hcv2
      go_wp2_with fail
      clear hcv2 hcvN hcv hclx hfz hxor
      have HGL : Hid (gl < w4.heap.size) := show _ < _ from hgll
      generalize hW5 : W0.setCell ⟨g2, a, none⟩ (.int .u8 (z.toNat : Int)) = w5 at *
      clear hW5 hgll g0 g1
      have HGL5 : Hid (gl < w5.heap.size) := show _ < _ from Nat.lt_of_lt_of_le HGL.out hB45.size
      have KEEP : Hid (∀ W, Below w5.heap.size w5 W → W.cell? ⟨gl, 0, none⟩ = some (.string C) ∧ (convert 48 9 (.slice (some ⟨g2, 0, none⟩) 32 c2)).run Tryd.prog W = .ok (.string (bstr K2)) W) := show ∀ W, _ from fun W hW => by
        refine ⟨(hW.cell (p := ⟨gl, 0, none⟩) HGL5.out).trans m0, ?_⟩
        have h := (HPUT.out.below hW (Nat.le_refl _)).conv
        exact h
      refine wp_region_held_drew (S := fun W => W.cell? ⟨gl, 0, none⟩ = some (.string C) ∧ (convert 48 9 (.slice (some ⟨g2, 0, none⟩) 32 c2)).run Tryd.prog W = .ok (.string (bstr K2)) W) (by kernel_rfl) (KEEP.out _ (Below.refl _ _).drew) (fun _ => ?_)
      refine rg_gen (i := 0) (v := ?_) rfl (by kernel_rfl) (by kernel_rfl) (by kernel_rfl) (fun _ _ _ h => h) rfl (by rfl) ?_ (by assumption) ?_
      rotate_left
      · intro w hSw
        try dsimp only at hSw
        go_simp
        try with_reducible rfl
      try simp only [Act.put, List.setIfInBounds_toArray, List.set_cons_zero, List.set_cons_succ]
      refine rg_gen (i := 1) (v := ?_) rfl (by kernel_rfl) (by kernel_rfl) (by kernel_rfl) (fun _ _ _ h => h) rfl (by rfl) ?_ (by assumption) ?_
      rotate_left
      · intro w hSw
        try dsimp only at hSw
        go_simp
        try with_reducible rfl
      try simp only [Act.put, List.setIfInBounds_toArray, List.set_cons_zero, List.set_cons_succ]
      refine rg_gen (i := 2) (v := ?_) rfl (by kernel_rfl) (by kernel_rfl) (by kernel_rfl) (fun _ _ _ h => h) rfl (by rfl) ?_ (by assumption) ?_
      rotate_left
      · intro w hSw
        try dsimp only at hSw
        go_simp
        try with_reducible rfl
      try simp only [Act.put, List.setIfInBounds_toArray, List.set_cons_zero, List.set_cons_succ]
      refine rg_gen (i := 3) (v := ?_) rfl (by kernel_rfl) (by kernel_rfl) (by kernel_rfl) (fun _ _ _ h => h) rfl (by rfl) ?_ (by assumption) ?_
      rotate_left
      · intro w hSw
        try dsimp only at hSw
        go_simp
        try with_reducible rfl
      try simp only [Act.put, List.setIfInBounds_toArray, List.set_cons_zero, List.set_cons_succ]
      refine rg_gen (i := 4) (v := ?_) rfl (by kernel_rfl) (by kernel_rfl) (by kernel_rfl) (fun _ _ _ h => h) rfl (by rfl) ?_ (by assumption) ?_
      rotate_left
      · intro w hSw
        try dsimp only at hSw
        go_simp
        try with_reducible rfl
      try simp only [Act.put, List.setIfInBounds_toArray, List.set_cons_zero, List.set_cons_succ]
      refine rg_one (i := 5) (by kernel_rfl) rfl (fun K hK => ?_)
      go_simp
      have HBA : Hid (Below w5.heap.size w5 (w5.drew.alloc (.cells #[.string C, .string (bstr K2)] 9))) := show Below _ _ _ from bw_alloc (Below.refl _ _).drew _
      refine hK.out _ _ (KEEP.out _ HBA.out) (fun _ => ?_)
      clear hK K
      try simp only [Act.put, List.setIfInBounds_toArray, List.set_cons_zero, List.set_cons_succ]
      have hrd := rd_two (w := w5.drew) (x := C) (y := bstr K2) (t := 9) rfl
      have HLI := Lib.hid (rlist_ok _ _ _ hrd (show 2 ≤ 1024 by decide) HTT.out)
      rw [← HU.out] at HLI
      clear hrd
      refine rg_one (i := 6) (by kernel_rfl) rfl (fun K hK => ?_)
      go_simp
      go_at_call 24
      refine HLI.out.mono ?_
      rintro e w6 ⟨rfl, hb6⟩
      have HB56 : Hid (Below w5.heap.size w5 w6) := show Below _ _ _ from bw_call HBA.out hb6
      clear hb6 HLI
      go_wp2_with fail
      refine hK.out _ _ (KEEP.out _ HB56.out) (fun _ => ?_)
      clear hK K
      try simp only [Act.put, List.setIfInBounds_toArray, List.set_cons_zero, List.set_cons_succ]
      refine rg_gen (i := 7) (v := ?_) rfl (by kernel_rfl) (by kernel_rfl) (by kernel_rfl) (fun _ _ _ h => h) rfl (by rfl) ?_ (by assumption) ?_
      rotate_left
      · intro w hSw
        try dsimp only at hSw
        go_simp
        try with_reducible rfl
      try simp only [Act.put, List.setIfInBounds_toArray, List.set_cons_zero, List.set_cons_succ]
      refine rg_gen (i := 8) (v := ?_) rfl (by kernel_rfl) (by kernel_rfl) (by kernel_rfl) (fun _ _ _ h => h) rfl (by rfl) ?_ (by assumption) ?_
      rotate_left
      · intro w hSw
        try dsimp only at hSw
        go_simp
        try with_reducible rfl
      try simp only [Act.put, List.setIfInBounds_toArray, List.set_cons_zero, List.set_cons_succ]
      refine rg_gen (i := 9) (v := ?_) rfl (by kernel_rfl) (by kernel_rfl) (by kernel_rfl) (fun _ _ _ h => h) rfl (by rfl) ?_ (by assumption) ?_
      rotate_left
      · intro w hSw
        try dsimp only at hSw
        go_simp
        try with_reducible rfl
      try simp only [Act.put, List.setIfInBounds_toArray, List.set_cons_zero, List.set_cons_succ]
      refine rg_one (i := 10) (by kernel_rfl) rfl (fun K hK => ?_)
      go_simp
      refine hK.out _ _ (KEEP.out _ HB56.out) (fun _ => ?_)
      clear hK K
      try simp only [Act.put, List.setIfInBounds_toArray, List.set_cons_zero, List.set_cons_succ]
      refine rg_one (i := 11) (by kernel_rfl) rfl (fun K hK => ?_)
      go_simp
      refine hK.out _ _ (KEEP.out _ HB56.out) (fun _ => ?_)
      clear hK K
      try simp only [Act.put, List.setIfInBounds_toArray, List.set_cons_zero, List.set_cons_succ]
      refine wpAnyH_done (by kernel_rfl) ?_ _
      have HB6 := Lib.hid (bw_call HB5.out HB56.out)
      have m06 := (HB56.out.cell (p := ⟨gl, 0, none⟩) HGL5.out).trans m0
      have m16 := (HB56.out.cell (p := ⟨gl, 1, none⟩) HGL5.out).trans m1
      have HGL6 : Hid (gl < w6.heap.size) := show _ < _ from Nat.lt_of_lt_of_le HGL5.out HB56.out.size
      have HRU : Hid (∀ W, RoundsAt W → Calls Tryd.prog 13 #[.string U] W fun e w' => (∃ x y z q c, e = .returned (.tuple #[.agg #[.int .i64 x, .int .i64 y, .int .i64 z, .slice q 0 c], .int .i64 21])) ∧ Below W.heap.size W w') := show ∀ W, _ from fun W hW => by
        refine (bxread_any U W HUS.out hW).mono ?_
        rintro e w' ⟨h1, h2⟩
        obtain ⟨x, y, z, q, n, c, k, he, hk⟩ := rx_form h2
        obtain ⟨rfl, rfl⟩ := hk HUB.out
        exact ⟨⟨x, y, z, q, c, he⟩, h1⟩
      clear m0 m1 HBA HB56 KEEP HPUT hB45
      go_wp2_with fail
      refine (HRU.out _ (HR.out.below HB6.out HR.out.1)).mono ?_
      rintro e w7 ⟨⟨xx, xy, xz, xq, xc, rfl⟩, hb7⟩
      have hbb := bw_alloc hb7 (.cells #[.int .i64 xx, .int .i64 xy, .int .i64 xz, .slice xq 0 xc] 24)
      have n0 := (hbb.cell (p := ⟨gl, 0, none⟩) HGL6.out).trans m06
      have n1 := (hbb.cell (p := ⟨gl, 1, none⟩) HGL6.out).trans m16
      have HB7 := Lib.hid (bw_call HB6.out hbb)
      have HGL7 : Hid (gl < (w7.alloc (.cells #[.int .i64 xx, .int .i64 xy, .int .i64 xz, .slice xq 0 xc] 24)).heap.size) := show _ < _ from Nat.lt_of_lt_of_le HGL6.out hbb.size
      clear hb7 hbb m06 m16
      by_cases hoC : o = C
      · have qo : (o.toList == C.toList) = true := by rw [hoC]; exact beq_self_eq_true _
        clear hoC
        go_wp2_with fail
        go_ret
        exact ⟨rfl, HB7.out⟩
      · have qo : (o.toList == C.toList) = false := by rw [pk_beq]; exact decide_eq_false hoC
        clear hoC
        by_cases ho1 : 1000 < o.size
        · have d1 : decide ((1000 : Int) < o.size) = true := decide_eq_true (by omega)
          go_wp2_with fail
          go_ret
          exact ⟨rfl, HB7.out⟩
        · have d1 : decide ((1000 : Int) < o.size) = false := decide_eq_false (by omega)
          obtain ⟨V, hV⟩ : ∃ V, V = bstr (encList [o, bstr K]) := ⟨_, rfl⟩
          have htv : tot [o, bstr K] ≤ 65536 := by
            have : tot [o, bstr K] = o.size + ((bstr K).size + 0) := by simp [tot]
            rw [this, bstr_size, HKL.out]
            omega
          have hVs : V.size ≤ 140737488355328 := by
            have h2 := encList_length (ls := [o, bstr K]) (show 2 ≤ 1024 by decide) htv
            have h4 : [o, bstr K].length = 2 := rfl
            rw [hV, bstr_size]
            omega
          have HVF : Hid (tagOf 64 4 o.data.toList ≠ K → rdBox V = .error 21) := show _ → _ from fun h => by rw [hV]; exact rdBox_forged HKL.out (by omega) h
          have HV := Lib.hid hV
          have HTV := Lib.hid htv
          have HVS := Lib.hid hVs
          clear hV htv hVs
          have HS7 : Hid ((w7.alloc (.cells #[.int .i64 xx, .int .i64 xy, .int .i64 xz, .slice xq 0 xc] 24)).heap.size = w7.heap.size + 1) := show _ = _ from by simp
          go_wp2_with fail
          generalize w7.alloc (.cells #[.int .i64 xx, .int .i64 xy, .int .i64 xz, .slice xq 0 xc] 24) = W7 at *
          have hrd := rd_two (w := W7) (x := o) (y := bstr K) (t := 9) rfl
          rw [HS7.out] at hrd
          have HLI := Lib.hid (rlist_ok _ _ _ hrd (show 2 ≤ 1024 by decide) HTV.out)
          rw [← HV.out] at HLI
          refine HLI.out.mono ?_
          rintro e w8 ⟨rfl, hb8⟩
          have hbb := bw_call (bw_alloc (Below.refl W7.heap.size W7) (.cells #[.string o, .string (bstr K)] 9)) hb8
          have p1 := (hbb.cell (p := ⟨gl, 1, none⟩) HGL7.out).trans n1
          have HB8 := Lib.hid (bw_call HB7.out hbb)
          have HGL8 : Hid (gl < w8.heap.size) := show _ < _ from Nat.lt_of_lt_of_le HGL7.out hbb.size
          clear hrd HLI hb8 hbb n0 n1
          go_wp2_with fail
          refine (bxread_any V _ HVS.out (HR.out.below HB8.out HR.out.1)).mono ?_
          rintro e w9 ⟨hb9, hres⟩
          obtain ⟨vx, vy, vz, vq, vn, vc, kk, rfl, hkk⟩ := rx_form hres
          have HKE : Hid (tagOf 64 4 o.data.toList ≠ K → kk = 21) := show _ → _ from fun h => (hkk (HVF.out h)).1
          have hbb := bw_alloc hb9 (.cells #[.int .i64 vx, .int .i64 vy, .int .i64 vz, .slice vq vn vc] 24)
          have p2 := (hbb.cell (p := ⟨gl, 1, none⟩) HGL8.out).trans p1
          have HB9 := Lib.hid (bw_call HB8.out hbb)
          have HGL9 : Hid (gl < (w9.alloc (.cells #[.int .i64 vx, .int .i64 vy, .int .i64 vz, .slice vq vn vc] 24)).heap.size) := show _ < _ from Nat.lt_of_lt_of_le HGL8.out hbb.size
          clear hb9 hres hkk hbb p1
          go_wp2_with fail
          generalize w9.alloc (.cells #[.int .i64 vx, .int .i64 vy, .int .i64 vz, .slice vq vn vc] 24) = W9 at *
          obtain ⟨G, hG⟩ : ∃ G, G = tagOf 64 4 o.data.toList := ⟨_, rfl⟩
          have hGl : G.length = 32 := by rw [hG]; exact tagOf_length _ _ _
          rw [← hG] at HKE
          have HTG : Hid (Calls Tryd.prog 25 #[.int .i64 64, .int .i64 4, .string o] W9 fun e w' => e = .returned (.tuple #[.agg (u8s G).toArray, .int .i64 0]) ∧ Below W9.heap.size W9 w') := show Calls _ _ _ _ _ from by
            rw [hG]
            exact rtag_ok 64 4 o W9 (by decide) (by decide) (by decide) (by decide) (by omega)
          have HGLN := Lib.hid hGl
          clear hG hGl
          refine HTG.out.mono ?_
          rintro e w10 ⟨rfl, hb10⟩
          have hz1 : (w10.alloc (.cells zl32.toArray 51)).heap[w10.heap.size]? = some (.cells (u8s z32).toArray 51 (0, 0)) := by rw [zl32_eq]; exact heap_alloc_new _ _
          have hb10a := bw_alloc hb10 (.cells zl32.toArray 51)
          go_wp2_with (first
            | ((with_reducible refine wpList_store_whole rfl 51 (.tmp 21) (.tmp 109) rfl w10.heap.size (u8s G) (u8s z32) 51 rfl rfl hz1 (by rw [u8s_length, u8s_length, HGLN.out, z32_length]) (hash_info HGLN.out) (u8s_one _) ?_); intro w11 hU11))
          have HB11 := Lib.hid (bw_call HB9.out (hU11.out.below hb10a (hb10.size)))
          have hbb : Below W9.heap.size W9 w11 := hU11.out.below hb10a hb10.size
          have p3 := (hbb.cell (p := ⟨gl, 1, none⟩) HGL9.out).trans p2
          have hz11 := hU11.out.at_
          have HGL11 : Hid (gl < w11.heap.size) := show _ < _ from Nat.lt_of_lt_of_le HGL9.out hbb.size
          have KEEP : Hid (∀ W, Below w11.heap.size w11 W → W.heap[w10.heap.size]? = some (.cells (u8s G).toArray 51 (0, 0)) ∧ W.cell? ⟨gl, 1, none⟩ = some (.string (bstr K))) := show ∀ W, _ from fun W hW => ⟨(hW.block _ (block_lt hz11)).trans hz11, (hW.cell (p := ⟨gl, 1, none⟩) HGL11.out).trans p3⟩
          have HBY := Lib.hid (fun W => rbytes_any G W HGLN.out)
          clear hb10 hb10a hbb p2 hz1 hU11
          by_cases hGK : G = K
          · have qg : ((bstr G).toList == (bstr K).toList) = true := by rw [hGK]; exact beq_self_eq_true _
            clear hGK
            refine wp_region_held_drew (S := fun W => W.heap[w10.heap.size]? = some (.cells (u8s G).toArray 51 (0, 0)) ∧ W.cell? ⟨gl, 1, none⟩ = some (.string (bstr K))) (by kernel_rfl) (KEEP.out _ (Below.refl _ _).drew) (fun _ => ?_)
            refine rg_row (i := 0) rfl (by kernel_rfl) (by kernel_rfl) (by kernel_rfl) (fun _ _ _ _ h => h) rfl (by rfl) 51 (.tmp 21) rfl w10.heap.size 0 (u8s G) rfl (fun W hW => range_row hW.1 id_at) Tryd.underlying51 rfl (hash_info HGLN.out) (by assumption) ?_
            try simp only [Act.put, List.setIfInBounds_toArray, List.set_cons_zero, List.set_cons_succ]
            refine rg_gen (i := 2) (v := ?_) rfl (by kernel_rfl) (by kernel_rfl) (by kernel_rfl) (fun _ _ _ h => h) rfl (by rfl) ?_ (by assumption) ?_
            rotate_left
            · intro w hSw
              try dsimp only at hSw
              go_simp
              try with_reducible rfl
            try simp only [Act.put, List.setIfInBounds_toArray, List.set_cons_zero, List.set_cons_succ]
            refine rg_gen (i := 3) (v := ?_) rfl (by kernel_rfl) (by kernel_rfl) (by kernel_rfl) (fun _ _ _ h => h) rfl (by rfl) ?_ (by assumption) ?_
            rotate_left
            · intro w hSw
              try dsimp only at hSw
              go_simp
              try with_reducible rfl
            try simp only [Act.put, List.setIfInBounds_toArray, List.set_cons_zero, List.set_cons_succ]
            refine rg_gen (i := 4) (v := ?_) rfl (by kernel_rfl) (by kernel_rfl) (by kernel_rfl) (fun _ _ _ h => h) rfl (by rfl) ?_ (by assumption) ?_
            rotate_left
            · intro w hSw
              try dsimp only at hSw
              go_simp
              try with_reducible rfl
            try simp only [Act.put, List.setIfInBounds_toArray, List.set_cons_zero, List.set_cons_succ]
            refine rg_one (i := 1) (by kernel_rfl) rfl (fun K_ hK => ?_)
            go_simp
            go_at_call 26
            refine (HBY.out _).mono ?_
            rintro e w12 ⟨rfl, hb12⟩
            have HB12 : Hid (Below w11.heap.size w11 w12) := show Below _ _ _ from ((Below.refl w11.heap.size w11).drew).trans hb12
            clear hb12
            go_wp2_with fail
            refine hK.out _ _ (KEEP.out _ HB12.out) (fun _ => ?_)
            clear hK K_
            try simp only [Act.put, List.setIfInBounds_toArray, List.set_cons_zero, List.set_cons_succ]
            refine rg_gen (i := 5) (v := ?_) rfl (by kernel_rfl) (by kernel_rfl) (by kernel_rfl) (fun _ _ _ h => h) rfl (by rfl) ?_ (by assumption) ?_
            rotate_left
            · intro w hSw
              try dsimp only at hSw
              go_simp
              try with_reducible rfl
            try simp only [Act.put, List.setIfInBounds_toArray, List.set_cons_zero, List.set_cons_succ]
            refine rg_gen (i := 6) (v := ?_) rfl (by kernel_rfl) (by kernel_rfl) (by kernel_rfl) (fun _ _ _ h => h) rfl (by rfl) ?_ (by assumption) ?_
            rotate_left
            · intro w hSw
              try dsimp only at hSw
              go_simp
              try with_reducible rfl
            try simp only [Act.put, List.setIfInBounds_toArray, List.set_cons_zero, List.set_cons_succ]
            refine rg_skip (i := 7) rfl (by kernel_rfl) (by kernel_rfl) (by kernel_rfl) (fun _ _ _ h => h) rfl (by rfl) (by assumption) ?_
            try simp only [Act.put, List.setIfInBounds_toArray, List.set_cons_zero, List.set_cons_succ]
            refine rg_skip (i := 8) rfl (by kernel_rfl) (by kernel_rfl) (by kernel_rfl) (fun _ _ _ h => h) rfl (by rfl) (by assumption) ?_
            try simp only [Act.put, List.setIfInBounds_toArray, List.set_cons_zero, List.set_cons_succ]
            refine rg_gen (i := 9) (v := ?_) rfl (by kernel_rfl) (by kernel_rfl) (by kernel_rfl) (fun _ _ _ h => h) rfl (by rfl) ?_ (by assumption) ?_
            rotate_left
            · intro w hSw
              try dsimp only at hSw
              go_simp
              try with_reducible rfl
            try simp only [Act.put, List.setIfInBounds_toArray, List.set_cons_zero, List.set_cons_succ]
            refine rg_one (i := 10) (by kernel_rfl) rfl (fun K_ hK => ?_)
            go_simp
            refine hK.out _ _ (KEEP.out _ HB12.out) (fun _ => ?_)
            clear hK K_
            refine wpAnyH_done (by kernel_rfl) ?_ _
            go_wp2_with fail
            go_ret
            exact ⟨rfl, bw_call HB11.out HB12.out⟩
          · have qg : ((bstr G).toList == (bstr K).toList) = false := by rw [pk_beq]; exact decide_eq_false (fun e => hGK (bstr_inj e))
            obtain rfl : kk = 21 := HKE.out hGK
            clear hGK
            refine wp_region_held_drew (S := fun W => W.heap[w10.heap.size]? = some (.cells (u8s G).toArray 51 (0, 0)) ∧ W.cell? ⟨gl, 1, none⟩ = some (.string (bstr K))) (by kernel_rfl) (KEEP.out _ (Below.refl _ _).drew) (fun _ => ?_)
            refine rg_row (i := 0) rfl (by kernel_rfl) (by kernel_rfl) (by kernel_rfl) (fun _ _ _ _ h => h) rfl (by rfl) 51 (.tmp 21) rfl w10.heap.size 0 (u8s G) rfl (fun W hW => range_row hW.1 id_at) Tryd.underlying51 rfl (hash_info HGLN.out) (by assumption) ?_
            try simp only [Act.put, List.setIfInBounds_toArray, List.set_cons_zero, List.set_cons_succ]
            refine rg_gen (i := 2) (v := ?_) rfl (by kernel_rfl) (by kernel_rfl) (by kernel_rfl) (fun _ _ _ h => h) rfl (by rfl) ?_ (by assumption) ?_
            rotate_left
            · intro w hSw
              try dsimp only at hSw
              go_simp
              try with_reducible rfl
            try simp only [Act.put, List.setIfInBounds_toArray, List.set_cons_zero, List.set_cons_succ]
            refine rg_gen (i := 3) (v := ?_) rfl (by kernel_rfl) (by kernel_rfl) (by kernel_rfl) (fun _ _ _ h => h) rfl (by rfl) ?_ (by assumption) ?_
            rotate_left
            · intro w hSw
              try dsimp only at hSw
              go_simp
              try with_reducible rfl
            try simp only [Act.put, List.setIfInBounds_toArray, List.set_cons_zero, List.set_cons_succ]
            refine rg_gen (i := 4) (v := ?_) rfl (by kernel_rfl) (by kernel_rfl) (by kernel_rfl) (fun _ _ _ h => h) rfl (by rfl) ?_ (by assumption) ?_
            rotate_left
            · intro w hSw
              try dsimp only at hSw
              go_simp
              try with_reducible rfl
            try simp only [Act.put, List.setIfInBounds_toArray, List.set_cons_zero, List.set_cons_succ]
            refine rg_one (i := 1) (by kernel_rfl) rfl (fun K_ hK => ?_)
            go_simp
            go_at_call 26
            refine (HBY.out _).mono ?_
            rintro e w12 ⟨rfl, hb12⟩
            have HB12 : Hid (Below w11.heap.size w11 w12) := show Below _ _ _ from ((Below.refl w11.heap.size w11).drew).trans hb12
            clear hb12
            go_wp2_with fail
            refine hK.out _ _ (KEEP.out _ HB12.out) (fun _ => ?_)
            clear hK K_
            try simp only [Act.put, List.setIfInBounds_toArray, List.set_cons_zero, List.set_cons_succ]
            refine rg_gen (i := 5) (v := ?_) rfl (by kernel_rfl) (by kernel_rfl) (by kernel_rfl) (fun _ _ _ h => h) rfl (by rfl) ?_ (by assumption) ?_
            rotate_left
            · intro w hSw
              try dsimp only at hSw
              go_simp
              try with_reducible rfl
            try simp only [Act.put, List.setIfInBounds_toArray, List.set_cons_zero, List.set_cons_succ]
            refine rg_gen (i := 6) (v := ?_) rfl (by kernel_rfl) (by kernel_rfl) (by kernel_rfl) (fun _ _ _ h => h) rfl (by rfl) ?_ (by assumption) ?_
            rotate_left
            · intro w hSw
              try dsimp only at hSw
              go_simp
              try with_reducible rfl
            try simp only [Act.put, List.setIfInBounds_toArray, List.set_cons_zero, List.set_cons_succ]
            refine rg_gen (i := 7) (v := ?_) rfl (by kernel_rfl) (by kernel_rfl) (by kernel_rfl) (fun _ _ _ h => h) rfl (by rfl) ?_ (by assumption) ?_
            rotate_left
            · intro w hSw
              try dsimp only at hSw
              go_simp
              try with_reducible rfl
            try simp only [Act.put, List.setIfInBounds_toArray, List.set_cons_zero, List.set_cons_succ]
            refine rg_gen (i := 8) (v := ?_) rfl (by kernel_rfl) (by kernel_rfl) (by kernel_rfl) (fun _ _ _ h => h) rfl (by rfl) ?_ (by assumption) ?_
            rotate_left
            · intro w hSw
              try dsimp only at hSw
              go_simp
              try with_reducible rfl
            try simp only [Act.put, List.setIfInBounds_toArray, List.set_cons_zero, List.set_cons_succ]
            refine rg_gen (i := 9) (v := ?_) rfl (by kernel_rfl) (by kernel_rfl) (by kernel_rfl) (fun _ _ _ h => h) rfl (by rfl) ?_ (by assumption) ?_
            rotate_left
            · intro w hSw
              try dsimp only at hSw
              go_simp
              try with_reducible rfl
            try simp only [Act.put, List.setIfInBounds_toArray, List.set_cons_zero, List.set_cons_succ]
            refine rg_one (i := 10) (by kernel_rfl) rfl (fun K_ hK => ?_)
            go_simp
            refine hK.out _ _ (KEEP.out _ HB12.out) (fun _ => ?_)
            clear hK K_
            refine wpAnyH_done (by kernel_rfl) ?_ _
            go_wp2_with fail
            go_ret
            exact ⟨rfl, bw_call HB11.out HB12.out⟩
    · have qe : (E != 0) = true := bne_iff_ne.2 hE0
      clear hE0
      go_wp2_with fail
      refine (awake13_any _ (HR.out.below HB3.out HR.out.1)).mono ?_
      rintro e w4 ⟨rfl, hb4⟩
      have HB4 := Lib.hid (bw_call HB3.out hb4)
      clear hb4
      go_wp2_with fail
      go_ret
      exact ⟨rfl, HB4.out⟩
end Go.Proofs.YtbeooeihedhabaaDoor
