/- disk's law DiskArmed: what the call does. -/
import Derived.Test.YtopdhefhagckoaaDkAwake
namespace Go.Proofs.Ytopdhefhagckoaa
open Go.RowKit Go.Maps
set_option maxHeartbeats 2000000
set_option maxRecDepth 4000
/-- an armed disk behind some calls -/
structure ArmI (k i sz : Nat) (d : DS) : Prop where
  left : d.left = some (k - i)
  fs : (d.fs = [] ∧ i = 0) ∨ ∃ b, d.fs = [⟨[97], b, 0⟩] ∧ b.size = i * sz
theorem word_a : isWord [97] = true := by decide
theorem word_b : isWord [98] = true := by decide
theorem ArmI.step {k i : Nat} {s : ByteArray} {d : DS} (h : ArmI k i s.size d) (hik : i < k) (hk : k < 40) (hs : s.size ≤ 1000) : d.down = false ∧ (d.append [97] s).2 = 0 ∧ ArmI k (i + 1) s.size (d.append [97] s).1 := by
  have hd : d.down = false := by
    unfold DS.down
    rw [h.left]
    refine decide_eq_false fun e => ?_
    have := Option.some.inj e
    omega
  have hl : d.left.map (fun k => k - 1) = some (k - (i + 1)) := by rw [h.left]; show some _ = some _; congr 1
  have hm : i * s.size ≤ 39 * 1000 := Nat.mul_le_mul (by omega) hs
  rcases h.fs with ⟨hf, rfl⟩ | ⟨b, hf, hb⟩
  · have e : d.append [97] s = (d.did (putN FE.nm { nm := [97], b := s, safe := 0 } d.fs), 0) := by
      unfold DS.append
      rw [hd, if_neg (by decide), word_a, if_neg (by decide)]
      rw [show d.find [97] = none from by unfold DS.find; rw [hf]; rfl]
      dsimp only
      rw [if_neg (by omega), hf, if_neg (by decide)]
    rw [e]
    refine ⟨hd, rfl, hl, .inr ⟨s, ?_, by omega⟩⟩
    show putN FE.nm _ d.fs = _
    rw [hf]
    rfl
  · have e : d.append [97] s = (d.did (putN FE.nm { nm := [97], b := b ++ s, safe := 0 } d.fs), 0) := by
      unfold DS.append
      rw [hd, if_neg (by decide), word_a, if_neg (by decide)]
      rw [show d.find [97] = some ⟨[97], b, 0⟩ from by unfold DS.find; rw [hf]; rfl]
      dsimp only
      rw [if_neg (by omega)]
    rw [e]
    refine ⟨hd, rfl, hl, .inr ⟨b ++ s, ?_, ?_⟩⟩
    · show putN FE.nm _ d.fs = _
      rw [hf]
      rfl
    · rw [ByteArray.size_append, hb, Nat.succ_mul]
theorem ArmI.end_ {k : Nat} {s : ByteArray} {d : DS} (h : ArmI k k s.size d) (hs : s.size ≤ 1000) (ks : List Int) :
    d.down = true ∧ d.append [97] s = (d, 8) ∧ d.sync [97] = (d, 8) ∧ d.names = [] ∧ (d.crash ks).down = false ∧ ((d.crash ks).append [98] s).2 = 0 := by
  have hd : d.down = true := by
    unfold DS.down
    rw [h.left, Nat.sub_self]
    rfl
  have hdc : (d.crash ks).down = false := rfl
  refine ⟨hd, by unfold DS.append; rw [if_pos hd], by unfold DS.sync; rw [if_pos hd], by unfold DS.names; rw [if_pos hd], hdc, ?_⟩
  have hfs : (d.crash ks).fs.length ≤ 1 ∧ (d.crash ks).find [98] = none := by
    have hn := crashL_nm d.fs ks
    have hl := crashL_length d.fs ks
    rcases h.fs with ⟨hf, _⟩ | ⟨b, hf, _⟩
    · rw [hf] at hl
      refine ⟨by show (crashL d.fs ks).length ≤ 1; rw [hf, hl]; decide, ?_⟩
      unfold DS.find
      show findN _ _ (crashL d.fs ks) = none
      rw [hf]
      rfl
    · refine ⟨by show (crashL d.fs ks).length ≤ 1; rw [hl, hf]; exact Nat.le_refl 1, ?_⟩
      show findN _ _ (crashL d.fs ks) = none
      rw [hf]
      cases ks <;> rfl
  unfold DS.append
  rw [hdc, if_neg (by decide), word_b, if_neg (by decide), hfs.2]
  dsimp only
  rw [if_neg (by omega), if_neg (by omega)]
theorem armed_any (n : Nat) (s : ByteArray) (w : World) (hn : n < 256) (hs : s.size ≤ 140737488351232) :
    Calls Try.prog 3 #[.int .u8 n, .string s] w fun e w' => e = .returned (.bool true) ∧ Below w.heap.size w w' := by
  by_cases h1 : 1000 < s.size
  · have d0 : decide ((1000 : Int) < s.size) = true := decide_eq_true (by omega)
    have d0' : decide (1000 < s.size) = true := decide_eq_true h1
    go_enter Try.func3, Try.ntmps3
    go_wp2_with fail
    refine (new_disk w.heap.size w w (Below.refl _ _) (Nat.le_refl _)).mono ?_
    rintro e w1 ⟨bd, bm, rfl, hD, hB1⟩
    go_wp2_with fail
    refine (awake_any _).mono ?_
    rintro e w2 ⟨rfl, hB2⟩
    go_wp2_with fail
    refine (awake_any _).mono ?_
    rintro e w3 ⟨rfl, hB3⟩
    have hb := bw_call (bw_call hB1 hB2) hB3
    clear hD
    go_wp2_with fail
    go_ret
    exact ⟨rfl, hb⟩
  · have d0 : decide ((1000 : Int) < s.size) = false := decide_eq_false (by omega)
    have d0' : decide (1000 < s.size) = false := decide_eq_false h1
    obtain ⟨k, hk⟩ : ∃ k : Nat, k = n % 40 := ⟨_, rfl⟩
    have hk40 : k < 40 := by omega
    have HS : Hid (s.size ≤ 1000) := show _ ≤ _ from by omega
    have e1 : (n : Int) % 40 = (k : Int) := by omega
    have HKK := Lib.hid hk
    clear hk
    go_enter Try.func3, Try.ntmps3
    go_wp2_with fail
    refine (new_disk w.heap.size w w (Below.refl _ _) (Nat.le_refl _)).mono ?_
    rintro e w1 ⟨bd, bm, rfl, hD, hB1⟩
    have HD1 := Lib.hid hD
    clear hD hB1
    go_wp2_with fail
    refine (awake_any _).mono ?_
    rintro e w2 ⟨rfl, hB2⟩
    have HD2 := Lib.hid (HD1.out.next hB2)
    clear hB2
    go_wp2_with fail
    have HA := Lib.hid (arm_any w2 HD2.out (k : Int) (by omega))
    have ha : (stOf [] none).arm (k : Int) = (⟨[], some k⟩, 0) := by
      unfold DS.arm
      rw [if_neg (by decide), if_neg (by omega), Int.toNat_natCast]
      rfl
    rw [ha] at HA
    clear ha
    refine HA.out.mono ?_
    rintro e w3 ⟨rfl, hT⟩
    obtain ⟨⟨p3, l3, hD, hS, -⟩, -⟩ := hT
    have HD3 := Lib.hid hD
    have HI3 : Hid (ArmI k 0 s.size (stOf p3 l3)) := show ArmI _ _ _ _ from by rw [hS]; exact ⟨rfl, .inl ⟨rfl, rfl⟩⟩
    clear hD hS
    go_wp2_with fail
    go_loopw [7] (fun i_ wr => ∃ (i : Nat) (pl : List FB) (left : Option Nat), i_ = .int .i64 i ∧ i ≤ k ∧ Hid (DkAt w.heap.size w wr bd bm pl left) ∧ Hid (ArmI k i s.size (stOf pl left))) (fun i_ _ => match i_ with | .int _ j => k - j.toNat | _ => 0)
    case atStart => exact ⟨0, p3, l3, rfl, Nat.zero_le _, HD3, HI3⟩
    case round =>
      obtain ⟨i, pl, left, rfl, hik, HD, HI⟩ := hrel
      by_cases hlt : i < k
      · have hst := HI.out.step hlt hk40 HS.out
        have HW := Lib.hid (down_any wr HD.out)
        have HP := Lib.hid (append_any wr HD.out ⟨#[97]⟩ s (by decide) (by have := HS.out; omega))
        rw [hst.1] at HW
        rw [show ((stOf pl left).append (⟨#[97]⟩ : ByteArray).data.toList s) = ((stOf pl left).append [97] s) from rfl, hst.2.1] at HP
        have HN := Lib.hid hst.2.2
        have d1 : decide ((i : Int) < k) = true := decide_eq_true (by omega)
        clear hst
        go_wp2_with fail
        refine HW.out.mono ?_
        rintro e w4 ⟨rfl, rfl⟩
        go_wp2_with fail
        refine HP.out.mono ?_
        rintro e w5 ⟨rfl, hT⟩
        obtain ⟨⟨p5, l5, hD, hS, -⟩, -⟩ := hT
        have HD5 := Lib.hid hD
        have HI5 : Hid (ArmI k (i + 1) s.size (stOf p5 l5)) := show ArmI _ _ _ _ from by rw [hS]; exact HN.out
        clear hD hS
        go_wp2_with fail
        go_roundw
        case rel => exact ⟨i + 1, p5, l5, by go_num, by omega, HD5, HI5⟩
        case measure => simp; omega
      · have hie : i = k := by omega
        subst hie
        obtain ⟨z, hz⟩ : ∃ z, z = IntKind.i64.wrap (2 * (s.size : Int)) := ⟨_, rfl⟩
        have hz2 : IntKind.i64.wrap (2 * (s.size : Int)) = z := hz.symm
        clear hz
        have hen := HI.out.end_ HS.out [z]
        have d1 : decide ((i : Int) < i) = false := decide_eq_false (by omega)
        have HW := Lib.hid (down_any wr HD.out)
        have HP := Lib.hid (append_any wr HD.out ⟨#[97]⟩ s (by decide) (by have := HS.out; omega))
        rw [hen.1] at HW
        rw [show ((stOf pl left).append (⟨#[97]⟩ : ByteArray).data.toList s) = ((stOf pl left).append [97] s) from rfl, hen.2.1] at HP
        have HEN := Lib.hid hen
        clear hen
        go_wp2_with fail
        refine HW.out.mono ?_
        rintro e w4 ⟨rfl, rfl⟩
        go_wp2_with fail
        refine HP.out.mono ?_
        rintro e w5 ⟨rfl, hT⟩
        obtain ⟨⟨p5, l5, hD, hS, -⟩, -⟩ := hT
        have HY := Lib.hid (sync_any w5 hD ⟨#[97]⟩ (by decide))
        rw [hS, show ((stOf pl left).sync (⟨#[97]⟩ : ByteArray).data.toList) = ((stOf pl left).sync [97]) from rfl, HEN.out.2.2.1] at HY
        clear hD hS
        go_wp2_with fail
        refine HY.out.mono ?_
        rintro e w6 ⟨rfl, hT⟩
        obtain ⟨⟨p6, l6, hD, hS, -⟩, -⟩ := hT
        have HM := Lib.hid (names_any w6 hD)
        rw [hS, HEN.out.2.2.2.1] at HM
        have HD6 := Lib.hid hD
        have HS6 := Lib.hid hS
        clear hD hS
        go_wp2_with fail
        refine HM.out.mono ?_
        rintro e w7 ⟨v, rfl, hO, hB⟩
        have hv : v = .slice none 0 0 ∨ ∃ g cap, v = .slice (some ⟨g, 0, none⟩) 0 cap := by
          rcases hO.2 with ⟨rfl, _⟩ | ⟨g, cap, cur, rfl, _⟩
          · exact .inl rfl
          · exact .inr ⟨g, cap, rfl⟩
        obtain ⟨q, cq, rfl⟩ : ∃ q cq, v = .slice q 0 cq := by
          rcases hv with rfl | ⟨g, cap, rfl⟩
          · exact ⟨_, _, rfl⟩
          · exact ⟨_, _, rfl⟩
        have hD7 := HD6.out.next hB
        have HLT : Hid (∀ k, Its bd bm p6 k → k < w7.heap.size) := show ∀ k, _ from fun k => hD7.its_lt
        have HD7 := Lib.hid hD7
        clear hO hB hv hD7
        go_wp2_with fail
        have hD8 := HD7.out.next (bw_alloc (Below.refl _ _) (.cells #[.int .i64 z] 3))
        have HC := Lib.hid (crash_any _ hD8 _ [z] (RdIn.one w7 (.int .i64 z) 3 _ (fun hi => Nat.lt_irrefl _ (HLT.out _ hi))))
        rw [HS6.out] at HC
        clear hD8
        refine HC.out.mono ?_
        rintro e w8 ⟨rfl, hT⟩
        obtain ⟨⟨p9, l9, hD, hS, -⟩, -⟩ := hT
        have HW9 := Lib.hid (down_any w8 hD)
        have HP9 := Lib.hid (append_any w8 hD ⟨#[98]⟩ s (by decide) (by have := HS.out; omega))
        rw [hS, HEN.out.2.2.2.2.1] at HW9
        rw [hS, show (((stOf pl left).crash [z]).append (⟨#[98]⟩ : ByteArray).data.toList s) = (((stOf pl left).crash [z]).append [98] s) from rfl, HEN.out.2.2.2.2.2] at HP9
        clear hD hS
        go_wp2_with fail
        refine HW9.out.mono ?_
        rintro e w10 ⟨rfl, rfl⟩
        go_wp2_with fail
        refine HP9.out.mono ?_
        rintro e w11 ⟨rfl, hT⟩
        obtain ⟨⟨p11, l11, hD, hS, -⟩, -⟩ := hT
        have HB := Lib.hid hD.below
        clear hD hS
        go_wp2_with fail
        go_ret
        exact ⟨rfl, HB.out⟩
end Go.Proofs.Ytopdhefhagckoaa
