/- disk's law DiskDoes: what the call does. -/
import Derived.Test.YtopdhefhagckoaaDkDo
namespace Go.Proofs.Ytopdhefhagckoaa
open Go.RowKit Go.Maps Go.Sort
set_option maxHeartbeats 4000000
set_option maxRecDepth 4000
section
variable {N : Nat} {w : World} {bd bm bx : Nat} {d1 d2 : DS} {O : Nat → Prop}
theorem Both.down1 (W : World) (h : Both N w W bd bm bx d1 d2 O) : Calls Try.prog 11 #[.pointer (some ⟨bd, 0, none⟩)] W fun e w' => e = .returned (.bool d1.down) ∧ w' = W := by
  obtain ⟨pl, left, v, rfl, hD, -⟩ := h
  exact down_any W hD
theorem Both.down2 (W : World) (h : Both N w W bd bm bx d1 d2 O) : Calls Try.prog 20 #[.pointer (some ⟨bx, 0, none⟩)] W fun e w' => e = .returned (.bool d2.down) ∧ w' = W := by
  obtain ⟨pl, left, v, -, -, hX, -⟩ := h
  exact xdown_any W hX
theorem Both.names1 (W : World) (h : Both N w W bd bm bx d1 d2 O) : Calls Try.prog 14 #[.pointer (some ⟨bd, 0, none⟩)] W fun e w' => ∃ q c, e = .returned (.slice q d1.names.length c) ∧ RdIn w' (.slice q d1.names.length c) (d1.names.map encStr) (fun b => W.heap.size ≤ b) ∧ Below W.heap.size W w' := by
  obtain ⟨pl, left, v, rfl, hD, -⟩ := h
  refine (names_any W hD).mono ?_
  rintro e w' ⟨u, rfl, hO, hb⟩
  obtain ⟨q, c, rfl⟩ := own_shape hO
  exact ⟨q, c, rfl, RdIn.of_own hO, hb⟩
theorem Both.names2 (W : World) (h : Both N w W bd bm bx d1 d2 O) : Calls Try.prog 22 #[.pointer (some ⟨bx, 0, none⟩)] W fun e w' => ∃ q c, e = .returned (.slice q d2.names.length c) ∧ RdIn w' (.slice q d2.names.length c) (d2.names.map encStr) (fun b => W.heap.size ≤ b) ∧ Below W.heap.size W w' := by
  obtain ⟨pl, left, v, -, -, hX, -⟩ := h
  refine (xnames_any W hX).mono ?_
  rintro e w' ⟨u, rfl, hO, hb⟩
  obtain ⟨q, c, rfl⟩ := own_shape hO
  exact ⟨q, c, rfl, RdIn.of_own hO, hb⟩
theorem Both.read1 (W : World) (h : Both N w W bd bm bx d1 d2 O) (s : ByteArray) (hs : s.size ≤ 140737488355328) : Calls Try.prog 18 #[.pointer (some ⟨bd, 0, none⟩), .string s] W fun e w' => e = .returned (.tuple #[.string (d1.look s.data.toList).1, .int .i64 (d1.look s.data.toList).2.2]) ∧ w' = W := by
  obtain ⟨pl, left, v, rfl, hD, -⟩ := h
  exact read_any W hD s hs
theorem Both.safe1 (W : World) (h : Both N w W bd bm bx d1 d2 O) (s : ByteArray) (hs : s.size ≤ 140737488355328) : Calls Try.prog 19 #[.pointer (some ⟨bd, 0, none⟩), .string s] W fun e w' => e = .returned (.tuple #[.int .i64 ((d1.look s.data.toList).2.1 : Nat), .int .i64 (d1.look s.data.toList).2.2]) ∧ w' = W := by
  obtain ⟨pl, left, v, rfl, hD, -⟩ := h
  exact safe_any W hD s hs
theorem Both.look2 (W : World) (h : Both N w W bd bm bx d1 d2 O) (s : ByteArray) : Calls Try.prog 23 #[.pointer (some ⟨bx, 0, none⟩), .string s] W fun e w' => e = .returned (.tuple #[.string (d2.look s.data.toList).1, .int .i64 ((d2.look s.data.toList).2.1 : Nat), .int .i64 (d2.look s.data.toList).2.2]) ∧ Below W.heap.size W w' := by
  obtain ⟨pl, left, v, -, -, hX, -⟩ := h
  exact xlook_any W hX s
end
theorem names_le {d : DS} (h : d.wf) : d.names.length ≤ 8 := by
  unfold DS.names
  split
  · exact Nat.zero_le _
  · rw [List.length_map]; exact h.few
theorem Both.wf1 {N : Nat} {w W : World} {bd bm bx : Nat} {d1 d2 : DS} {O : Nat → Prop} (h : Both N w W bd bm bx d1 d2 O) : d1.wf := by
  obtain ⟨pl, left, v, rfl, hD, -⟩ := h
  exact hD.wf
theorem a9_info (x : A9) : (Try.prog.info? 36).map (·.size) = some x.cells.length := by
  rw [show x.cells.length = 6 from rfl]
  kernel_rfl
theorem both_new {w W w' : World} {bd bm : Nat} {pl : List FB} {left : Option Nat} (hD : DkAt w.heap.size w W bd bm pl left) (hX : XAt w.heap.size w' W.heap.size (.slice none 0 0) DS.new) (hb : Below W.heap.size W w') : Both w.heap.size w w' bd bm W.heap.size (stOf pl left) DS.new (fun k => k < w.heap.size) := by
  have hD2 := hD.next hb
  refine ⟨pl, left, .slice none 0 0, rfl, hD2, hX, fun k hk hi => ?_, fun k hk => ⟨Nat.lt_of_lt_of_le hk (Nat.le_trans hD.below.size hb.size), fun hi => ?_, fun hx => ?_⟩⟩
  · rcases hk with rfl | hk
    · exact Nat.lt_irrefl _ (hD.its_lt hi)
    · cases hk
  · rcases hi with rfl | rfl | ⟨p, hp, rfl⟩
    · exact absurd hD2.lo.1 (by omega)
    · exact absurd hD2.lo.2.1 (by omega)
    · exact absurd (hD2.lo.2.2 p hp) (by omega)
  · have := hX.ge hx; omega
theorem does_any (l : List A9) (v : Value) (w : World) (hr : RdRows w v 6 (l.map A9.cells) (fun b => b < w.heap.size)) (hok : ∀ x ∈ l, x.ok w) :
    Calls Try.prog 5 #[v] w fun e w' => e = .returned (.bool true) ∧ Below w.heap.size w w' := by
  have HRW := Lib.hid hr
  have HOK := Lib.hid hok
  obtain ⟨A, c, rfl, -⟩ := hr
  obtain ⟨n, hn⟩ : ∃ n, n = l.length := ⟨_, rfl⟩
  rw [List.length_map, ← hn] at HRW ⊢
  have HN := Lib.hid hn
  clear hok hn
  go_enter Try.func5, Try.ntmps5
  go_wp2_with fail
  refine (new_disk w.heap.size w w (Below.refl _ _) (Nat.le_refl _)).mono ?_
  rintro e w1 ⟨bd, bm, rfl, hD, hB1⟩
  have HD1 := Lib.hid hD
  have HB1 := Lib.hid hB1
  clear hD hB1
  go_wp2_with fail
  refine (xnew_any w.heap.size w1 HB1.out.size).mono ?_
  rintro e w2 ⟨rfl, hX, hB2⟩
  obtain ⟨bx, hbx⟩ : ∃ bx, bx = w1.heap.size := ⟨_, rfl⟩
  have hBO : Both w.heap.size w w2 bd bm bx DS.new DS.new (fun k => k < w.heap.size) := by
    rw [hbx]
    exact both_new HD1.out hX hB2
  have HBO := Lib.hid hBO
  rw [← hbx]
  clear hBO hX hB2 hbx
  go_wp2_with fail
  refine (awake_any _).mono ?_
  rintro e w3 ⟨rfl, hB3⟩
  have HBO3 := Lib.hid (HBO.out.next hB3).both
  clear hB3
  go_wp2_with fail
  go_loopw [5] (fun i_ wr => ∃ (i : Nat) (d : DS), i_ = .int .i64 i ∧ i ≤ n ∧ i ≤ 60 ∧ Hid (Both w.heap.size w wr bd bm bx d d (fun k => k < w.heap.size))) (fun i_ _ => match i_ with | .int _ j => 60 - j.toNat | _ => 0)
  case atStart => exact ⟨0, DS.new, rfl, Nat.zero_le _, Nat.zero_le _, HBO3⟩
  case round =>
    obtain ⟨i, d, rfl, hin, hi60, HB⟩ := hrel
    by_cases hlt : i < n ∧ i < 60
    · obtain ⟨h1, h2⟩ := hlt
      have hil : i < l.length := by have := HN.out; omega
      obtain ⟨A9', c9', e9, r9⟩ := HRW.out
      injection e9 with e91 e92 e93
      subst e91 e93
      obtain ⟨gb, go_, hA, hgl, -, hc⟩ := r9 i (by rw [List.length_map]; exact hil)
      subst hA
      rw [List.getElem_map] at hc
      obtain ⟨x, hx⟩ : ∃ x, x = l[i]'hil := ⟨_, rfl⟩
      rw [← hx] at hc
      have hxo : x.ok w := HOK.out x (by rw [hx]; exact List.getElem_mem hil)
      have HRG : Hid (∀ wr : World, Below w.heap.size w wr → wr.rangeAt gb (go_ + i * 6) x.cells) := show ∀ wr, _ from fun wr hb j u hu => (hb.cell (p := ⟨gb, go_ + i * 6 + j, none⟩) hgl).trans (hc j u hu)
      have HCN : Hid (∀ wr : World, Below w.heap.size w wr → wr.cell? ⟨gb, go_ + i * 6 + 1, none⟩ = some (.string x.a.name)) := show ∀ wr, _ from fun wr hb => HRG.out wr hb 1 _ rfl
      have HSZ : Hid (x.a.name.size ≤ 140737488355328) := show _ ≤ _ from by have := hxo.name; omega
      have HDO : Hid (Calls Try.prog 16 #[.pointer (some ⟨bd, 0, none⟩), .pointer (some ⟨bx, 0, none⟩), .agg x.cells.toArray] wr fun e w' => e = .returned (.bool true) ∧ BothTo w.heap.size w wr w' bd bm bx (d.step x.a).1 (d.step x.a).1 (fun k => k < w.heap.size)) := show Calls _ _ _ _ _ from by
        have h := do_any HB.out x hxo.name hxo.to_ hxo.s hxo.n (hxo.keep.below HB.out.below fun b hb => hb)
        rw [beq_self_eq_true] at h
        exact h
      have HRL := Lib.hid (HRG.out wr HB.out.below)
      have f0 : (0 : Int) ≤ i := by omega
      have f1 : (i : Int) < n := by omega
      have f2 : decide ((i : Int) < n) = true := decide_eq_true f1
      have f3 : decide ((i : Int) < 60) = true := decide_eq_true (by omega)
      have f3' : decide (i < 60) = true := decide_eq_true (by omega)
      clear hc hx hxo r9 e92 hgl
      go_wp2_with (with_reducible refine wpList_load_mid rfl 36 (.tmp 35) rfl gb (go_ + i * 6) rfl x.cells _ HRL.out Try.underlying36 rfl (a9_info _) ?_)
      refine HDO.out.mono ?_
      rintro e w4 ⟨rfl, hB4⟩
      obtain ⟨d4, hd4⟩ : ∃ d4, d4 = (d.step x.a).1 := ⟨_, rfl⟩
      rw [← hd4] at hB4
      have HB4 := Lib.hid hB4.both
      clear hB4 hd4
      go_wp2_with fail
      refine (Both.down1 _ HB4.out).mono ?_
      rintro e w5 ⟨rfl, rfl⟩
      go_wp2_with fail
      refine (Both.down2 _ HB4.out).mono ?_
      rintro e w6 ⟨rfl, rfl⟩
      have hdd : (d4.down != d4.down) = false := bne_self_eq_false _
      go_wp2_with fail
      refine (Both.names1 _ HB4.out).mono ?_
      rintro e w7 ⟨q7, c7, rfl, hR7, hb7⟩
      have HR7 := Lib.hid hR7
      have HB7 := Lib.hid (HB4.out.next hb7).both
      have HNL : Hid (d4.names.length ≤ 1099511627776) := show _ ≤ _ from by have := names_le HB4.out.wf1; omega
      clear hR7 hb7
      go_wp2_with fail
      refine (Both.names2 _ HB7.out).mono ?_
      rintro e w8 ⟨q8, c8, rfl, hR8, hb8⟩
      have HR7b := Lib.hid (HR7.out.kept hb8.size fun b hb _ => hb8.block b hb)
      have HB8 := Lib.hid (HB7.out.next hb8).both
      have HSM := rsame_any _ _ _ _ w8 HR7b.out hR8 HNL.out
      rw [decide_eq_true rfl] at HSM
      have HSM := Lib.hid HSM
      clear hR8 hb8
      go_wp2_with fail
      refine HSM.out.mono ?_
      rintro e w9 ⟨rfl, hb9⟩
      have HB9 := Lib.hid (HB8.out.next hb9).both
      have c1 := HCN.out w9 HB9.out.below
      clear hb9
      obtain ⟨r, hr⟩ : ∃ r, r = d4.look x.a.name.data.toList := ⟨_, rfl⟩
      have HRD := Both.read1 _ HB9.out x.a.name HSZ.out
      have HSF := Both.safe1 _ HB9.out x.a.name HSZ.out
      have HLK := Both.look2 _ HB9.out x.a.name
      rw [← hr] at HRD HSF HLK
      have HRD := Lib.hid HRD
      have HSF := Lib.hid HSF
      have HLK := Lib.hid HLK
      have q1 : (r.1.toList == r.1.toList) = true := beq_self_eq_true _
      have q2 : (r.2.2 != r.2.2) = false := bne_self_eq_false _
      have q3 : ((r.2.1 : Int) != (r.2.1 : Int)) = false := bne_self_eq_false _
      clear hr
      go_wp2_with fail
      refine HRD.out.mono ?_
      rintro e w10 ⟨rfl, rfl⟩
      go_wp2_with fail
      refine HSF.out.mono ?_
      rintro e w11 ⟨rfl, rfl⟩
      go_wp2_with fail
      refine HLK.out.mono ?_
      rintro e w12 ⟨rfl, hb12⟩
      have HB12 := Lib.hid (HB9.out.next hb12).both
      clear hb12
      go_wp2_with fail
      go_roundw
      case rel => exact ⟨i + 1, d4, by go_num, by omega, by omega, HB12⟩
      case measure => simp; omega
    · by_cases h1 : i < n
      · have h60 : i = 60 := by omega
        subst h60
        have f2 : decide ((60 : Nat) < (n : Int)) = true := decide_eq_true (by omega)
        have f2' : decide ((60 : Int) < n) = true := decide_eq_true (by omega)
        clear hlt
        simp only [show ((60 : Nat) : Int) = 60 from rfl]
        go_wp2_with fail
        go_ret
        exact ⟨rfl, HB.out.below⟩
      · have hie : i = n := by omega
        subst hie
        have f2 : decide ((i : Int) < i) = false := decide_eq_false (by omega)
        clear hlt
        go_wp2_with fail
        go_ret
        exact ⟨rfl, HB.out.below⟩
end Go.Proofs.Ytopdhefhagckoaa
