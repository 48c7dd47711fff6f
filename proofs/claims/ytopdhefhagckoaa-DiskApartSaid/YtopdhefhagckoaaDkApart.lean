/- disk's law DiskApart: what the call does. -/
import Derived.Test.YtopdhefhagckoaaDkDoes
namespace Go.Proofs.Ytopdhefhagckoaa
open Go.RowKit Go.Maps Go.Sort
set_option maxHeartbeats 4000000
set_option maxRecDepth 4000
abbrev ownN : List UInt8 := [111, 119, 110]
theorem own_word : isWord ownN = true := by decide
theorem own_append {s : ByteArray} (hs : s.size ≤ 1000) : DS.new.append ownN s = (⟨[⟨ownN, s, 0⟩], none⟩, 0) := by
  unfold DS.append
  rw [show DS.new.down = false from rfl, if_neg (by decide), own_word, if_neg (by decide), show DS.new.find ownN = none from rfl]
  dsimp only
  rw [if_neg (by omega), if_neg (by decide)]
  rfl
theorem own_start {s : ByteArray} (hs : s.size ≤ 1000) : Own ownN s (DS.sync ⟨[⟨ownN, s, 0⟩], none⟩ ownN).1 := by
  have hw := wf_sync (wf_append wf_new ownN s) ownN
  rw [own_append hs] at hw
  exact ⟨rfl, hw, rfl⟩
theorem Own.look {k : List UInt8} {s : ByteArray} {d : DS} (h : Own k s d) : d.look k = (s, s.size, 0) := by
  unfold DS.look
  rw [h.up, if_neg (by decide), h.file]
theorem beq_own (a : ByteArray) : (a.toList == ownN) = decide (a.data.toList = ownN) := by
  rw [ByteArray.toList_eq]
  by_cases h : a.data.toList = ownN
  · rw [h]; rfl
  · rw [decide_eq_false h]; exact beq_false_of_ne h
theorem apart_any (l : List A9) (v : Value) (s : ByteArray) (w : World) (hr : RdRows w v 6 (l.map A9.cells) (fun b => b < w.heap.size)) (hok : ∀ x ∈ l, x.ok w) (hs : s.size ≤ 140737488351232) :
    Calls Try.prog 4 #[v, .string s] w fun e w' => e = .returned (.bool true) ∧ Below w.heap.size w w' := by
  by_cases h1 : 1000 < s.size
  · have d0 : decide ((1000 : Int) < s.size) = true := decide_eq_true (by omega)
    have d0' : decide (1000 < s.size) = true := decide_eq_true h1
    clear hr hok
    go_enter Try.func4, Try.ntmps4
    go_wp2_with fail
    refine (new_disk w.heap.size w w (Below.refl _ _) (Nat.le_refl _)).mono ?_
    rintro e w1 ⟨bd, bm, rfl, hD, hB1⟩
    go_wp2_with fail
    refine (awake_any _).mono ?_
    rintro e w2 ⟨rfl, hB2⟩
    go_wp2_with fail
    refine (awake_any _).mono ?_
    rintro e w3 ⟨rfl, hB3⟩
    have hb := bw_call (bw_call hB1 hB2) hB3
    clear hD
    go_wp2_with fail
    go_ret
    exact ⟨rfl, hb⟩
  · have d0 : decide ((1000 : Int) < s.size) = false := decide_eq_false (by omega)
    have d0' : decide (1000 < s.size) = false := decide_eq_false h1
    have HS : Hid (s.size ≤ 1000) := show _ ≤ _ from by omega
    have HRW := Lib.hid hr
    have HOK := Lib.hid hok
    obtain ⟨A, c, rfl, -⟩ := hr
    obtain ⟨n, hn⟩ : ∃ n, n = l.length := ⟨_, rfl⟩
    rw [List.length_map, ← hn] at HRW ⊢
    have HN := Lib.hid hn
    clear hok hn
    go_enter Try.func4, Try.ntmps4
    go_wp2_with fail
    refine (new_disk w.heap.size w w (Below.refl _ _) (Nat.le_refl _)).mono ?_
    rintro e w1 ⟨bd, bm, rfl, hD, hB1⟩
    have HD1 := Lib.hid hD
    clear hD hB1
    go_wp2_with fail
    refine (awake_any _).mono ?_
    rintro e w2 ⟨rfl, hB2⟩
    have HD2 := Lib.hid (HD1.out.next hB2)
    clear hB2
    have HC := append_any w2 HD2.out ⟨#[111, 119, 110]⟩ s (by decide) (by have := HS.out; omega)
    rw [show ((stOf [] none).append (⟨#[111, 119, 110]⟩ : ByteArray).data.toList s) = _ from own_append HS.out] at HC
    have HC := Lib.hid HC
    go_wp2_with fail
    refine HC.out.mono ?_
    rintro e w3 ⟨rfl, hT⟩
    obtain ⟨⟨p3, l3, hD, hS3, -⟩, -⟩ := hT
    have HC := sync_any w3 hD ⟨#[111, 119, 110]⟩ (by decide)
    rw [hS3] at HC
    have HC := Lib.hid HC
    clear hD hS3
    go_wp2_with fail
    refine HC.out.mono ?_
    rintro e w4 ⟨rfl, hT⟩
    obtain ⟨⟨p4, l4, hD, hS4, -⟩, -⟩ := hT
    have HO4 : Hid (Own ownN s (stOf p4 l4)) := show Own _ _ _ from by rw [hS4]; exact own_start HS.out
    have HD4 := Lib.hid hD
    clear hD hS4
    go_wp2_with fail
    go_loopw [6] (fun i_ wr => ∃ (i : Nat) (pl : List FB) (left : Option Nat), i_ = .int .i64 i ∧ i ≤ n ∧ i ≤ 60 ∧ Hid (DkAt w.heap.size w wr bd bm pl left) ∧ Hid (Own ownN s (stOf pl left))) (fun i_ _ => match i_ with | .int _ j => 60 - j.toNat | _ => 0)
    case atStart => exact ⟨0, p4, l4, rfl, Nat.zero_le _, Nat.zero_le _, HD4, HO4⟩
    case round =>
      obtain ⟨i, pl, left, rfl, hin, hi60, HD, HO⟩ := hrel
      by_cases hlt : i < n ∧ i < 60
      · obtain ⟨h1, h2⟩ := hlt
        have hil : i < l.length := by have := HN.out; omega
        obtain ⟨A9', c9', e9, r9⟩ := HRW.out
        injection e9 with e91 e92 e93
        subst e91 e93
        obtain ⟨gb, go_, hA, hgl, -, hc⟩ := r9 i (by rw [List.length_map]; exact hil)
        subst hA
        rw [List.getElem_map] at hc
        obtain ⟨x, hx⟩ : ∃ x, x = l[i]'hil := ⟨_, rfl⟩
        rw [← hx] at hc
        have HXO : Hid (x.ok w) := show _ from HOK.out x (by rw [hx]; exact List.getElem_mem hil)
        have HCL : Hid (∀ wr : World, Below w.heap.size w wr → ∀ j u, x.cells[j]? = some u → wr.cell? ⟨gb, go_ + i * 6 + j, none⟩ = some u) := show ∀ wr, _ from fun wr hb j u hu => (hb.cell (p := ⟨gb, go_ + i * 6 + j, none⟩) hgl).trans (hc j u hu)
        have HST := Lib.hid (fun a1 a2 a3 => own_step (k := ownN) (s := s) HO.out x.a a1 a2 a3)
        have HDO : Hid (∀ W bx, Both w.heap.size w W bd bm bx (stOf pl left) DS.new (fun k => k < w.heap.size) → Calls Try.prog 16 #[.pointer (some ⟨bd, 0, none⟩), .pointer (some ⟨bx, 0, none⟩), .agg x.cells.toArray] W fun e w' => e = .returned (.bool (((stOf pl left).step x.a).2 == (DS.new.step x.a).2)) ∧ BothTo w.heap.size w W w' bd bm bx ((stOf pl left).step x.a).1 (DS.new.step x.a).1 (fun k => k < w.heap.size)) := show ∀ W bx, _ from fun W bx hB =>
          do_any hB x HXO.out.name HXO.out.to_ HXO.out.s HXO.out.n (HXO.out.keep.below hB.below fun b hb => hb)
        obtain ⟨⟨kd, nm, to_, ss, nn, ks⟩, kv⟩ := x
        have f0 : (0 : Int) ≤ i := by omega
        have f1 : (i : Int) < n := by omega
        have f2 : decide ((i : Int) < n) = true := decide_eq_true f1
        have f3 : decide ((i : Int) < 60) = true := decide_eq_true (by omega)
        have f3' : decide (i < 60) = true := decide_eq_true (by omega)
        have c0 : wr.cell? ⟨gb, go_ + i * 6, none⟩ = some (.int .i64 kd) := HCL.out wr HD.out.below 0 _ rfl
        have c1 : wr.cell? ⟨gb, go_ + i * 6 + 1, none⟩ = some (.string nm) := HCL.out wr HD.out.below 1 _ rfl
        have c2 : wr.cell? ⟨gb, go_ + i * 6 + 2, none⟩ = some (.string to_) := HCL.out wr HD.out.below 2 _ rfl
        have c3 : wr.cell? ⟨gb, go_ + i * 6 + 3, none⟩ = some (.string ss) := HCL.out wr HD.out.below 3 _ rfl
        have c4 : wr.cell? ⟨gb, go_ + i * 6 + 4, none⟩ = some (.int .i64 nn) := HCL.out wr HD.out.below 4 _ rfl
        have c5 : wr.cell? ⟨gb, go_ + i * 6 + 5, none⟩ = some kv := HCL.out wr HD.out.below 5 _ rfl
        have KEEP : Hid (∀ wr : World, Below w.heap.size w wr → wr.cell? ⟨gb, go_ + i * 6, none⟩ = some (.int .i64 kd) ∧ wr.cell? ⟨gb, go_ + i * 6 + 1, none⟩ = some (.string nm) ∧ wr.cell? ⟨gb, go_ + i * 6 + 2, none⟩ = some (.string to_) ∧ wr.cell? ⟨gb, go_ + i * 6 + 3, none⟩ = some (.string ss) ∧ wr.cell? ⟨gb, go_ + i * 6 + 4, none⟩ = some (.int .i64 nn) ∧ wr.cell? ⟨gb, go_ + i * 6 + 5, none⟩ = some kv) := show ∀ wr, _ from fun wr hb =>
          ⟨HCL.out wr hb 0 _ rfl, HCL.out wr hb 1 _ rfl, HCL.out wr hb 2 _ rfl, HCL.out wr hb 3 _ rfl, HCL.out wr hb 4 _ rfl, HCL.out wr hb 5 _ rfl⟩
        clear hc hx r9 e92 hgl
        by_cases g1 : nm.data.toList = ownN
        · have q1 : (nm.toList == [111, 119, 110]) = true := (beq_own nm).trans (decide_eq_true g1)
          clear g1
          go_wp2_with fail
          go_roundw
          case rel => exact ⟨i + 1, pl, left, by go_num, by omega, by omega, HD, HO⟩
          case measure => simp; omega
        · have q1 : (nm.toList == [111, 119, 110]) = false := (beq_own nm).trans (decide_eq_false g1)
          by_cases g2 : to_.data.toList = ownN
          · have q2 : (to_.toList == [111, 119, 110]) = true := (beq_own to_).trans (decide_eq_true g2)
            clear g1 g2
            go_wp2_with fail
            go_roundw
            case rel => exact ⟨i + 1, pl, left, by go_num, by omega, by omega, HD, HO⟩
            case measure => simp; omega
          · have q2 : (to_.toList == [111, 119, 110]) = false := (beq_own to_).trans (decide_eq_false g2)
            by_cases g3 : kd = 5
            · have q3 : (kd != 5) = false := by simpa using g3
              clear g1 g2 g3
              go_wp2_with fail
              go_roundw
              case rel => exact ⟨i + 1, pl, left, by go_num, by omega, by omega, HD, HO⟩
              case measure => simp; omega
            · have q3 : (kd != 5) = true := by simpa using g3
              have HST2 := Lib.hid (HST.out g1 g2 g3)
              clear g1 g2 g3
              go_wp2_with fail
              refine wp_region_held_drew (S := fun W => W.cell? ⟨gb, go_ + i * 6, none⟩ = some (.int .i64 kd) ∧ W.cell? ⟨gb, go_ + i * 6 + 1, none⟩ = some (.string nm) ∧ W.cell? ⟨gb, go_ + i * 6 + 2, none⟩ = some (.string to_) ∧ W.cell? ⟨gb, go_ + i * 6 + 3, none⟩ = some (.string ss) ∧ W.cell? ⟨gb, go_ + i * 6 + 4, none⟩ = some (.int .i64 nn) ∧ W.cell? ⟨gb, go_ + i * 6 + 5, none⟩ = some kv) (by kernel_rfl) ⟨c0, c1, c2, c3, c4, c5⟩ (fun _ => ?_)
              clear c0 c1 c2 c3 c4 c5
              refine rg_gen (i := 0) (v := ?_) rfl (by kernel_rfl) (by kernel_rfl) (by kernel_rfl) (fun _ _ _ h => h) rfl (by rfl) ?_ (by assumption) ?_
              rotate_left
              · intro w hSw
                try dsimp only at hSw
                go_simp
                try with_reducible rfl
              try simp only [Act.put, List.setIfInBounds_toArray, List.set_cons_zero, List.set_cons_succ]
              refine rg_gen (i := 2) (v := ?_) rfl (by kernel_rfl) (by kernel_rfl) (by kernel_rfl) (fun _ _ _ h => h) rfl (by rfl) ?_ (by assumption) ?_
              rotate_left
              · intro w hSw
                try dsimp only at hSw
                go_simp
                try with_reducible rfl
              try simp only [Act.put, List.setIfInBounds_toArray, List.set_cons_zero, List.set_cons_succ]
              refine rg_gen (i := 3) (v := ?_) rfl (by kernel_rfl) (by kernel_rfl) (by kernel_rfl) (fun _ _ _ h => h) rfl (by rfl) ?_ (by assumption) ?_
              rotate_left
              · intro w hSw
                try dsimp only at hSw
                go_simp
                try with_reducible rfl
              try simp only [Act.put, List.setIfInBounds_toArray, List.set_cons_zero, List.set_cons_succ]
              refine rg_gen (i := 4) (v := ?_) rfl (by kernel_rfl) (by kernel_rfl) (by kernel_rfl) (fun _ _ _ h => h) rfl (by rfl) ?_ (by assumption) ?_
              rotate_left
              · intro w hSw
                try dsimp only at hSw
                go_simp
                try with_reducible rfl
              try simp only [Act.put, List.setIfInBounds_toArray, List.set_cons_zero, List.set_cons_succ]
              refine rg_gen (i := 5) (v := ?_) rfl (by kernel_rfl) (by kernel_rfl) (by kernel_rfl) (fun _ _ _ h => h) rfl (by rfl) ?_ (by assumption) ?_
              rotate_left
              · intro w hSw
                try dsimp only at hSw
                go_simp
                try with_reducible rfl
              try simp only [Act.put, List.setIfInBounds_toArray, List.set_cons_zero, List.set_cons_succ]
              have HDd := Lib.hid (HD.out.next (Below.refl wr.heap.size wr).drew)
              refine rg_one (i := 1) (by kernel_rfl) rfl (fun K hK => ?_)
              go_simp
              go_at_call 17
              refine (xnew_any w.heap.size wr.drew HDd.out.below.size).mono ?_
              rintro e w5 ⟨rfl, hX5, hb5⟩
              have HB5 := Lib.hid (both_new HDd.out hX5 hb5)
              clear hX5 hb5
              go_wp2_with fail
              refine hK.out _ _ (KEEP.out _ HB5.out.below) (fun _ => ?_)
              clear hK K
              try simp only [Act.put, List.setIfInBounds_toArray, List.set_cons_zero, List.set_cons_succ]
              refine rg_one (i := 6) (by kernel_rfl) rfl (fun K hK => ?_)
              go_simp
              go_at_call 16
              refine (HDO.out _ _ HB5.out).mono ?_
              rintro e w6 ⟨rfl, hB6⟩
              obtain ⟨pl6, l6, v6, hs6, hD6, -⟩ := hB6.both
              have HD6 := Lib.hid hD6
              have HO6 : Hid (Own ownN s (stOf pl6 l6)) := show Own _ _ _ from by rw [hs6]; exact HST2.out
              clear hB6 hs6 hD6
              go_wp2_with fail
              refine hK.out _ _ (KEEP.out _ HD6.out.below) (fun _ => ?_)
              clear hK K
              refine wpAnyH_done (by kernel_rfl) ?_ _
              go_wp2_with fail
              go_roundw
              case rel => exact ⟨i + 1, pl6, l6, by go_num, by omega, by omega, HD6, HO6⟩
              case measure => simp; omega
      · skip
        by_cases h1 : i < n
        · have h60 : i = 60 := by omega
          subst h60
          have f2 : decide ((60 : Nat) < (n : Int)) = true := decide_eq_true (by omega)
          have f2' : decide ((60 : Int) < n) = true := decide_eq_true (by omega)
          clear hlt
          simp only [show ((60 : Nat) : Int) = 60 from rfl]
          have HRD := read_any wr HD.out ⟨#[111, 119, 110]⟩ (by decide)
          have HSF := safe_any wr HD.out ⟨#[111, 119, 110]⟩ (by decide)
          rw [show (stOf pl left).look (⟨#[111, 119, 110]⟩ : ByteArray).data.toList = _ from HO.out.look] at HRD HSF
          have HRD := Lib.hid HRD
          have HSF := Lib.hid HSF
          have q1 : (s.toList == s.toList) = true := beq_self_eq_true _
          go_wp2_with fail
          refine HRD.out.mono ?_
          rintro e w10 ⟨rfl, rfl⟩
          go_wp2_with fail
          refine HSF.out.mono ?_
          rintro e w11 ⟨rfl, rfl⟩
          go_wp2_with fail
          go_ret
          exact ⟨rfl, HD.out.below⟩
        · have hie : i = n := by omega
          subst hie
          have f2 : decide ((i : Int) < i) = false := decide_eq_false (by omega)
          clear hlt
          have HRD := read_any wr HD.out ⟨#[111, 119, 110]⟩ (by decide)
          have HSF := safe_any wr HD.out ⟨#[111, 119, 110]⟩ (by decide)
          rw [show (stOf pl left).look (⟨#[111, 119, 110]⟩ : ByteArray).data.toList = _ from HO.out.look] at HRD HSF
          have HRD := Lib.hid HRD
          have HSF := Lib.hid HSF
          have q1 : (s.toList == s.toList) = true := beq_self_eq_true _
          go_wp2_with fail
          refine HRD.out.mono ?_
          rintro e w10 ⟨rfl, rfl⟩
          go_wp2_with fail
          refine HSF.out.mono ?_
          rintro e w11 ⟨rfl, rfl⟩
          go_wp2_with fail
          go_ret
          exact ⟨rfl, HD.out.below⟩
end Go.Proofs.Ytopdhefhagckoaa
