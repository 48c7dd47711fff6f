/- cavalcaderef05.Batches, cavalcaderef13.Same, the law's light: what the calls do. cavalcaderef13.Same: what the call does. -/
import Derived.Test.YtbeooeihedhabaaDoorBxLdPure
namespace Go.Proofs.YtbeooeihedhabaaDoor
open Go.RowKit
set_option maxHeartbeats 4000000
set_option maxRecDepth 4000
instance : DecidableEq BT := fun a b => by
  cases a; cases b
  rw [BT.mk.injEq]
  infer_instance
theorem bt_ne_len {a b : BT} (h : a.parts.length ≠ b.parts.length) : decide (a = b) = false := decide_eq_false (fun e => h (by rw [e]))
theorem bt_ne_at {a b : BT} {j : Nat} {h1 : j < a.parts.length} {h2 : j < b.parts.length} (h : a.parts[j]'h1 ≠ b.parts[j]'h2) : decide (a = b) = false := decide_eq_false (fun e => h (by subst e; rfl))
theorem batches_any (a b : BT) (va vb : Value) (w : World) (S T : Nat → Prop) (ha : RdRows w va 2 (a.parts.map PT.cells) S) (hb : RdRows w vb 2 (b.parts.map PT.cells) T) (hm : a.parts.length ≤ 9223372036854775806) :
    Calls Tryd.prog 15 #[.agg (a.cells va).toArray, .agg (b.cells vb).toArray] w fun e w' => e = .returned (.bool (decide (a = b))) ∧ Below w.heap.size w w' := by
  obtain ⟨qa, ca, hva⟩ : ∃ q c, va = .slice q a.parts.length c := by
    obtain ⟨A, c', h, _⟩ := ha
    exact ⟨A, c', by rw [h, List.length_map]⟩
  obtain ⟨qb, cb, hvb⟩ : ∃ q c, vb = .slice q b.parts.length c := by
    obtain ⟨A, c', h, _⟩ := hb
    exact ⟨A, c', by rw [h, List.length_map]⟩
  subst hva hvb
  have HA := Lib.hid ha
  have HB := Lib.hid hb
  obtain ⟨r, hr⟩ : ∃ r, r = decide (a = b) := ⟨_, rfl⟩
  rw [← hr]
  obtain ⟨A, hA⟩ : ∃ A, A = a := ⟨_, rfl⟩
  obtain ⟨B, hB⟩ : ∃ B, B = b := ⟨_, rfl⟩
  rw [← hA, ← hB] at hr
  rw [← hA] at HA
  rw [← hB] at HB
  have HR := Lib.hid hr
  have HPA : Hid (A.parts = a.parts) := show _ = _ from by rw [hA]
  have HPB : Hid (B.parts = b.parts) := show _ = _ from by rw [hB]
  have HEA : Hid (A = a) := show _ = _ from hA
  have HEB : Hid (B = b) := show _ = _ from hB
  obtain ⟨s1, f1, b1, p1⟩ := a
  obtain ⟨s2, f2, b2, p2⟩ := b
  dsimp only at HPA HPB hm ⊢
  obtain ⟨n, hn⟩ : ∃ n, n = p1.length := ⟨_, rfl⟩
  obtain ⟨m, hmm⟩ : ∃ m, m = p2.length := ⟨_, rfl⟩
  show Calls Tryd.prog 15 #[.agg #[.int .i64 s1, .int .i64 f1, .int .i64 b1, .slice qa p1.length ca], .agg #[.int .i64 s2, .int .i64 f2, .int .i64 b2, .slice qb p2.length cb]] w _
  rw [show A.parts.length = p1.length from by rw [HPA.out], ← hn] at HA
  rw [show B.parts.length = p2.length from by rw [HPB.out], ← hmm] at HB
  rw [← hn] at hm ⊢
  rw [← hmm]
  have HN := Lib.hid hn
  have HM := Lib.hid hmm
  have h0 := heap_alloc_new w (.cells #[.int .i64 s1, .int .i64 f1, .int .i64 b1, .slice qa n ca] 24)
  have h0' := (Below.heap_alloc (w.alloc (.cells #[.int .i64 s1, .int .i64 f1, .int .i64 b1, .slice qa n ca] 24)) (.cells #[.int .i64 s2, .int .i64 f2, .int .i64 b2, .slice qb m cb] 24) _ (block_lt h0)).trans h0
  have h1 := heap_alloc2_new w (.cells #[.int .i64 s1, .int .i64 f1, .int .i64 b1, .slice qa n ca] 24) (.cells #[.int .i64 s2, .int .i64 f2, .int .i64 b2, .slice qb m cb] 24)
  have hbl := bw_alloc (bw_alloc (Below.refl w.heap.size w) (.cells #[.int .i64 s1, .int .i64 f1, .int .i64 b1, .slice qa n ca] 24)) (.cells #[.int .i64 s2, .int .i64 f2, .int .i64 b2, .slice qb m cb] 24)
  have HBL := Lib.hid hbl
  have HKA := Lib.hid (HA.out.kept hbl.size fun k hk _ => hbl.block k hk)
  have HKB := Lib.hid (HB.out.kept hbl.size fun k hk _ => hbl.block k hk)
  generalize hW2 : (w.alloc (.cells #[.int .i64 s1, .int .i64 f1, .int .i64 b1, .slice qa n ca] 24)).alloc (.cells #[.int .i64 s2, .int .i64 f2, .int .i64 b2, .slice qb m cb] 24) = w2 at *
  have c0 : w2.cell? ⟨w.heap.size, 0, none⟩ = some (.int .i64 s1) := by rw [cell_of_row _ _ _ _ _ _ h0']; rfl
  have c1 : w2.cell? ⟨w.heap.size, 1, none⟩ = some (.int .i64 f1) := by rw [cell_of_row _ _ _ _ _ _ h0']; rfl
  have c2 : w2.cell? ⟨w.heap.size, 2, none⟩ = some (.int .i64 b1) := by rw [cell_of_row _ _ _ _ _ _ h0']; rfl
  have c3 : w2.cell? ⟨w.heap.size, 3, none⟩ = some (.slice qa n ca) := by rw [cell_of_row _ _ _ _ _ _ h0']; rfl
  have e0 : w2.cell? ⟨w.heap.size + 1, 0, none⟩ = some (.int .i64 s2) := by rw [cell_of_row _ _ _ _ _ _ h1]; rfl
  have e1 : w2.cell? ⟨w.heap.size + 1, 1, none⟩ = some (.int .i64 f2) := by rw [cell_of_row _ _ _ _ _ _ h1]; rfl
  have e2 : w2.cell? ⟨w.heap.size + 1, 2, none⟩ = some (.int .i64 b2) := by rw [cell_of_row _ _ _ _ _ _ h1]; rfl
  have e3 : w2.cell? ⟨w.heap.size + 1, 3, none⟩ = some (.slice qb m cb) := by rw [cell_of_row _ _ _ _ _ _ h1]; rfl
  clear h0 h0' h1 hbl ha hb hr hA hB hn hmm
  have HAL : Hid (A.parts.length = n ∧ B.parts.length = m) := show _ ∧ _ from ⟨by rw [HPA.out, HN.out], by rw [HPB.out, HM.out]⟩
  by_cases g1 : s1 = s2
  · by_cases g2 : f1 = f2
    · by_cases g3 : b1 = b2
      · by_cases g4 : n = m
        · subst g1 g2 g3 g4
          go_enter Tryd.func15, Tryd.ntmps15
          go_wp2_with fail
          clear hW2
          go_loopw [5] (fun i_ wr => ∃ j : Nat, i_ = .int .i64 j ∧ j ≤ n ∧ Hid (∀ k, k < j → A.parts[k]? = B.parts[k]?) ∧ Hid (Below w2.heap.size w2 wr)) (fun i_ _ => match i_ with | .int _ k => n - k.toNat | _ => 0)
          case atStart => exact ⟨0, rfl, Nat.zero_le _, (show ∀ k, k < 0 → A.parts[k]? = B.parts[k]? from fun k hk => absurd hk (Nat.not_lt_zero k)), (show Below _ _ _ from Below.refl _ _)⟩
          case round =>
            obtain ⟨j, rfl, hjn, HE, HB2⟩ := hrel
            have k3 := (HB2.out.cell (p := ⟨w.heap.size, 3, none⟩) (rd_block_of_cell c3)).trans c3
            have l3 := (HB2.out.cell (p := ⟨w.heap.size + 1, 3, none⟩) (rd_block_of_cell e3)).trans e3
            by_cases hlt : j < n
            · have hja : j < A.parts.length := by rw [HAL.out.1]; exact hlt
              have hjb : j < B.parts.length := by rw [HAL.out.2]; exact hlt
              obtain ⟨ga, oa, hq1, _, -, hca⟩ := (HKA.out.kept HB2.out.size fun k hk _ => HB2.out.block k hk).at j (by rw [List.length_map]; exact hja)
              obtain ⟨gb, ob, hq2, _, -, hcb⟩ := (HKB.out.kept HB2.out.size fun k hk _ => HB2.out.block k hk).at j (by rw [List.length_map]; exact hjb)
              subst hq1 hq2
              rw [List.getElem_map] at hca hcb
              obtain ⟨x, hx⟩ : ∃ x, x = A.parts[j]'hja := ⟨_, rfl⟩
              obtain ⟨y, hy⟩ : ∃ y, y = B.parts[j]'hjb := ⟨_, rfl⟩
              rw [← hx] at hca
              rw [← hy] at hcb
              have HEQ := Lib.hid (fun W => pt_eq x y W)
              obtain ⟨ge, hge⟩ : ∃ ge, ge = decide (x = y) := ⟨_, rfl⟩
              have HX : Hid (A.parts[j]? = some x) := show _ = _ from by rw [hx]; exact List.getElem?_eq_getElem hja
              have HY : Hid (B.parts[j]? = some y) := show _ = _ from by rw [hy]; exact List.getElem?_eq_getElem hjb
              have HGE := Lib.hid hge
              rw [← hge] at HEQ
              obtain ⟨d1, t1⟩ := x
              obtain ⟨d2, t2⟩ := y
              have m0 : wr.cell? ⟨ga, oa + j * 2, none⟩ = some (.bool d1) := hca 0 _ rfl
              have m1 : wr.cell? ⟨ga, oa + j * 2 + 1, none⟩ = some (.string t1) := hca 1 _ rfl
              have m2 : wr.cell? ⟨gb, ob + j * 2, none⟩ = some (.bool d2) := hcb 0 _ rfl
              have m3 : wr.cell? ⟨gb, ob + j * 2 + 1, none⟩ = some (.string t2) := hcb 1 _ rfl
              have heq : ∀ W, (Op.equalIn 10000 57 (.agg #[.bool d1, .string t1]) (.agg #[.bool d2, .string t2])).run Tryd.prog W = .ok ge W := HEQ.out
              have f0 : (0 : Int) ≤ j := by omega
              have f1 : (j : Int) < n := by omega
              clear hca hcb hx hy hge
              go_wp2_with fail
              refine wp_region_held_drew (S := fun W => W.cell? ⟨w.heap.size, 3, none⟩ = some (.slice (some ⟨ga, oa, none⟩) n ca) ∧ W.cell? ⟨w.heap.size + 1, 3, none⟩ = some (.slice (some ⟨gb, ob, none⟩) n cb) ∧ W.cell? ⟨ga, oa + j * 2, none⟩ = some (.bool d1) ∧ W.cell? ⟨ga, oa + j * 2 + 1, none⟩ = some (.string t1) ∧ W.cell? ⟨gb, ob + j * 2, none⟩ = some (.bool d2) ∧ W.cell? ⟨gb, ob + j * 2 + 1, none⟩ = some (.string t2)) (by kernel_rfl) ⟨k3, l3, m0, m1, m2, m3⟩ (fun _ => ?_)
              refine rg_gen (i := 0) (v := ?_) rfl (by kernel_rfl) (by kernel_rfl) (by kernel_rfl) (fun _ _ _ h => h) rfl (by rfl) ?_ (by assumption) ?_
              rotate_left
              · intro w hSw
                try dsimp only at hSw
                go_simp
                try with_reducible rfl
              try simp only [Act.put, List.setIfInBounds_toArray, List.set_cons_zero, List.set_cons_succ]
              refine rg_gen (i := 1) (v := ?_) rfl (by kernel_rfl) (by kernel_rfl) (by kernel_rfl) (fun _ _ _ h => h) rfl (by rfl) ?_ (by assumption) ?_
              rotate_left
              · intro w hSw
                try dsimp only at hSw
                go_simp
                try with_reducible rfl
              try simp only [Act.put, List.setIfInBounds_toArray, List.set_cons_zero, List.set_cons_succ]
              refine rg_gen (i := 2) (v := ?_) rfl (by kernel_rfl) (by kernel_rfl) (by kernel_rfl) (fun _ _ _ h => h) rfl (by rfl) ?_ (by assumption) ?_
              rotate_left
              · intro w hSw
                try dsimp only at hSw
                go_simp
                try with_reducible rfl
              try simp only [Act.put, List.setIfInBounds_toArray, List.set_cons_zero, List.set_cons_succ]
              refine rg_gen (i := 3) (v := ?_) rfl (by kernel_rfl) (by kernel_rfl) (by kernel_rfl) (fun _ _ _ h => h) rfl (by rfl) ?_ (by assumption) ?_
              rotate_left
              · intro w hSw
                try dsimp only at hSw
                go_simp
                try with_reducible rfl
              try simp only [Act.put, List.setIfInBounds_toArray, List.set_cons_zero, List.set_cons_succ]
              refine rg_gen (i := 4) (v := ?_) rfl (by kernel_rfl) (by kernel_rfl) (by kernel_rfl) (fun _ _ _ h => h) rfl (by rfl) ?_ (by assumption) ?_
              rotate_left
              · intro w hSw
                try dsimp only at hSw
                go_simp
                try with_reducible rfl
              try simp only [Act.put, List.setIfInBounds_toArray, List.set_cons_zero, List.set_cons_succ]
              refine rg_gen (i := 5) (v := ?_) rfl (by kernel_rfl) (by kernel_rfl) (by kernel_rfl) (fun _ _ _ h => h) rfl (by rfl) ?_ (by assumption) ?_
              rotate_left
              · intro w hSw
                try dsimp only at hSw
                go_simp
                try with_reducible rfl
              try simp only [Act.put, List.setIfInBounds_toArray, List.set_cons_zero, List.set_cons_succ]
              refine rg_gen (i := 6) (v := ?_) rfl (by kernel_rfl) (by kernel_rfl) (by kernel_rfl) (fun _ _ _ h => h) rfl (by rfl) ?_ (by assumption) ?_
              rotate_left
              · intro w hSw
                try dsimp only at hSw
                go_simp
                try with_reducible rfl
              try simp only [Act.put, List.setIfInBounds_toArray, List.set_cons_zero, List.set_cons_succ]
              refine rg_gen (i := 7) (v := ?_) rfl (by kernel_rfl) (by kernel_rfl) (by kernel_rfl) (fun _ _ _ h => h) rfl (by rfl) ?_ (by assumption) ?_
              rotate_left
              · intro w hSw
                try dsimp only at hSw
                go_simp
                try with_reducible rfl
              try simp only [Act.put, List.setIfInBounds_toArray, List.set_cons_zero, List.set_cons_succ]
              refine rg_gen (i := 8) (v := ?_) rfl (by kernel_rfl) (by kernel_rfl) (by kernel_rfl) (fun _ _ _ h => h) rfl (by rfl) ?_ (by assumption) ?_
              rotate_left
              · intro w hSw
                try dsimp only at hSw
                go_simp
                try with_reducible rfl
              try simp only [Act.put, List.setIfInBounds_toArray, List.set_cons_zero, List.set_cons_succ]
              refine rg_gen (i := 9) (v := ?_) rfl (by kernel_rfl) (by kernel_rfl) (by kernel_rfl) (fun _ _ _ h => h) rfl (by rfl) ?_ (by assumption) ?_
              rotate_left
              · intro w hSw
                try dsimp only at hSw
                go_simp
                try with_reducible rfl
              try simp only [Act.put, List.setIfInBounds_toArray, List.set_cons_zero, List.set_cons_succ]
              refine rg_gen (i := 10) (v := ?_) rfl (by kernel_rfl) (by kernel_rfl) (by kernel_rfl) (fun _ _ _ h => h) rfl (by rfl) ?_ (by assumption) ?_
              rotate_left
              · intro w hSw
                try dsimp only at hSw
                go_simp
                try with_reducible rfl
              try simp only [Act.put, List.setIfInBounds_toArray, List.set_cons_zero, List.set_cons_succ]
              refine wpAnyH_done (by kernel_rfl) ?_ _
              have HB3 : Hid (Below w2.heap.size w2 wr.drew) := show Below _ _ _ from HB2.out.drew
              cases ge with
              | false =>
                have HF : Hid (r = false) := show _ = _ from by
                  rw [HR.out]
                  refine bt_ne_at (j := j) (h1 := hja) (h2 := hjb) (fun e => ?_)
                  have h1 := HX.out
                  have h2 := HY.out
                  rw [List.getElem?_eq_getElem hja] at h1
                  rw [List.getElem?_eq_getElem hjb] at h2
                  injection h1 with h1
                  injection h2 with h2
                  have h3 := HGE.out.symm
                  rw [decide_eq_false_iff_not] at h3
                  exact h3 (by rw [← h1, ← h2, e])
                go_wp2_with fail
                go_ret
                exact ⟨by rw [HF.out]; rfl, HBL.out.trans (HB3.out.mono HBL.out.size)⟩
              | true =>
                have HE2 : Hid (∀ k, k < j + 1 → A.parts[k]? = B.parts[k]?) := show ∀ k, k < j + 1 → A.parts[k]? = B.parts[k]? from fun k hk => by
                  by_cases h : k < j
                  · exact HE.out k h
                  · have : k = j := by omega
                    subst this
                    rw [HX.out, HY.out]
                    have h3 := HGE.out.symm
                    rw [decide_eq_true_eq] at h3
                    rw [h3]
                go_wp2_with fail
                go_roundw
                case rel => exact ⟨j + 1, by go_num, hlt, HE2, HB3⟩
                case measure => simp; omega
            · obtain rfl : j = n := by omega
              have d9 : decide ((j : Int) < j) = false := decide_eq_false (by omega)
              have HF : Hid (r = true) := show _ = _ from by
                rw [HR.out, HEA.out, HEB.out]
                refine decide_eq_true ?_
                have h : p1 = p2 := by
                  refine List.ext_getElem? fun k => ?_
                  rw [← HPA.out, ← HPB.out]
                  by_cases hk : k < j
                  · exact HE.out k hk
                  · rw [List.getElem?_eq_none (by rw [HAL.out.1]; omega), List.getElem?_eq_none (by rw [HAL.out.2]; omega)]
                rw [h]
              go_wp2_with fail
              go_ret
              exact ⟨by rw [HF.out]; rfl, HBL.out.trans (HB2.out.mono HBL.out.size)⟩
        · have q4 : ((n : Int) != (m : Int)) = true := by rw [bne_iff_ne]; omega
          have HF : Hid (r = false) := show _ = _ from by rw [HR.out]; exact bt_ne_len (by rw [HAL.out.1, HAL.out.2]; exact g4)
          subst g1 g2 g3
          go_enter Tryd.func15, Tryd.ntmps15
          go_wp2_with fail
          clear hW2
          go_ret
          exact ⟨by rw [HF.out]; rfl, HBL.out⟩
      · have q3 : (b1 != b2) = true := bne_iff_ne.2 g3
        have HF : Hid (r = false) := show _ = _ from by rw [HR.out, HEA.out, HEB.out]; exact decide_eq_false (fun e => g3 (congrArg BT.before e))
        subst g1 g2
        go_enter Tryd.func15, Tryd.ntmps15
        go_wp2_with fail
        clear hW2
        go_ret
        exact ⟨by rw [HF.out]; rfl, HBL.out⟩
    · have q2 : (f1 != f2) = true := bne_iff_ne.2 g2
      have HF : Hid (r = false) := show _ = _ from by rw [HR.out, HEA.out, HEB.out]; exact decide_eq_false (fun e => g2 (congrArg BT.first e))
      subst g1
      go_enter Tryd.func15, Tryd.ntmps15
      go_wp2_with fail
      clear hW2
      go_ret
      exact ⟨by rw [HF.out]; rfl, HBL.out⟩
  · have q1 : (s1 != s2) = true := bne_iff_ne.2 g1
    have HF : Hid (r = false) := show _ = _ from by rw [HR.out, HEA.out, HEB.out]; exact decide_eq_false (fun e => g1 (congrArg BT.seq e))
    go_enter Tryd.func15, Tryd.ntmps15
    go_wp2_with fail
    clear hW2
    go_ret
    exact ⟨by rw [HF.out]; rfl, HBL.out⟩
open Go.RowKit
set_option maxHeartbeats 4000000
set_option maxRecDepth 4000
/-- an operation that a guard leaves out -/
theorem rg_skip {P : Program} {md : Region.Mode} {ops : Array Oper} {Q : Exit → Act → World → Prop} {S : World → Prop} {i : Nat} {oi : Oper} {t : Tmp} {fuel : Nat} {listed : Array Bool} {a : Act} {w : World} (hi : ops[i]? = some oi)
    (hs : Region.noSelect ops = true) (hf : Region.free md ops listed i = true) (hr : (Region.ready md ops listed).contains i = true)
    (hQ : ∀ c a w, Q (.panic c) (a.put oi.dst undef) w → Q (.panic c) a w) (hd : oi.dst = some t) (hw : Region.wanted oi (yielded ops a.tmps) = false) (hS : S w)
    (h : wpAnyH P md ops Q S fuel (listed.setIfInBounds i true) (a.put (some t) undef) w) : wpAnyH P md ops Q S (fuel + 1) listed a w :=
  wpAnyH_take hi hs hf hr hQ (Or.inr ⟨hw, rfl⟩) hS (by rw [hd]; exact h)
theorem flat_at {α : Type} (f : α → List Value) (sz : Nat) (hf : ∀ a, (f a).length = sz) : ∀ (l : List α) (k : Nat) (h : k < l.length) (j : Nat) (u : Value), (f (l[k]'h))[j]? = some u → (l.flatMap f)[k * sz + j]? = some u ∧ k * sz + j < l.length * sz
  | p :: l, 0, h, j, u, hu => by
    have hj : j < sz := by
      have := (List.getElem?_eq_some_iff.1 hu).1
      rw [← hf p]; exact this
    constructor
    · rw [List.flatMap_cons, Nat.zero_mul, Nat.zero_add, List.getElem?_append_left (by rw [hf]; exact hj)]
      exact hu
    · rw [List.length_cons, Nat.zero_mul, Nat.zero_add, Nat.add_mul]; omega
  | p :: l, k + 1, h, j, u, hu => by
    obtain ⟨h1, h2⟩ := flat_at f sz hf l k (by simpa using h) j u hu
    constructor
    · rw [List.flatMap_cons, List.getElem?_append_right (by rw [hf, Nat.add_mul]; omega), hf, show (k + 1) * sz + j - sz = k * sz + j from by rw [Nat.add_mul]; omega]
      exact h1
    · rw [List.length_cons, Nat.add_mul, Nat.add_mul]; omega
theorem RowsOwn {α : Type} {f : α → List Value} {sz : Nat} (hf : ∀ a, (f a).length = sz) {w : World} {base : Nat} {e : TypeId} {v : Value} {l : List α} (h : w.ownsRow base e sz v l.length (l.flatMap f)) : RdRows w v sz (l.map f) (fun b => base ≤ b) := by
  rcases h.2 with ⟨rfl, h0⟩ | ⟨g, cap, cur, rfl, hb, hg, _, _, _, ht⟩
  · have : l = [] := List.length_eq_zero_iff.1 h0
    subst this
    exact ⟨none, 0, rfl, fun k hk => absurd hk (Nat.not_lt_zero k)⟩
  · refine ⟨_, cap, by rw [List.length_map], fun k hk => ⟨g, 0, rfl, block_lt hg, hb, fun j u hu => ?_⟩⟩
    rw [List.getElem_map] at hu
    obtain ⟨h1, h2⟩ := flat_at f sz hf l k (by simpa using hk) j u hu
    rw [cell_of_row w g (0 + k * sz + j) cur _ (0, 0) hg, Nat.zero_add, ← Array.getElem?_toList, ← List.getElem?_take_of_lt h2, ht]
    exact h1
/-- a list of what counts that can be read -/
def LsAt (w : World) (v : Value) (l : List LV) : Prop := RdRows w v 5 (l.map LV.cells) (fun _ => True) ∧ ∀ x ∈ l, RdRows w x.pv 2 (x.b.parts.map PT.cells) (fun _ => True) ∧ x.b.parts.length ≤ 512
theorem LsAt.below {w w' : World} {v : Value} {l : List LV} (h : LsAt w v l) (hb : Below w.heap.size w w') : LsAt w' v l :=
  ⟨h.1.kept hb.size fun k hk _ => hb.block k hk, fun x hx => ⟨(h.2 x hx).1.kept hb.size fun k hk _ => hb.block k hk, (h.2 x hx).2⟩⟩
theorem LdAt.ls {B : Nat} {w wr : World} {v : Value} {l : List LV} (h : LdAt B w wr v l) (h5 : ∀ x ∈ l, x.b.parts.length ≤ 512) : LsAt wr v l :=
  ⟨(RowsOwn (f := LV.cells) (fun _ => rfl) h.own).mono fun _ _ _ => trivial, fun x hx => ⟨(h.parts x hx).mono fun _ _ _ => trivial, h5 x hx⟩⟩
theorem LsAt.take {w : World} {q : Option Addr} {n c : Nat} {l : List LV} (h : LsAt w (.slice q n c) l) (k c' : Nat) : LsAt w (.slice q (l.take k).length c') (l.take k) := by
  refine ⟨?_, fun x hx => h.2 x (List.mem_of_mem_take hx)⟩
  obtain ⟨A, c2, e, r⟩ := h.1
  injection e with e1 e2 e3
  subst e1
  refine ⟨q, c', by rw [List.length_map], fun j hj => ?_⟩
  rw [List.length_map, List.length_take] at hj
  obtain ⟨b, off, h1, h2, h3, h4⟩ := r j (by rw [List.length_map]; omega)
  refine ⟨b, off, h1, h2, h3, fun i u hu => h4 i u ?_⟩
  rw [List.getElem_map, List.getElem_take] at hu
  rw [List.getElem_map]
  exact hu
theorem rdBox_parts {s : ByteArray} {b : BT} (h : rdBox s = .ok b) : b.parts.length ≤ 512 := by
  unfold rdBox at h
  split at h
  · cases h
  · split at h
    · split at h
      · split at h
        · cases h
        · split at h
          · cases h
          · rename_i hb
            injection h with h
            subst h
            unfold rdB at hb
            split at hb
            · cases hb
            · split at hb
              · cases hb
              · split at hb
                · rename_i hc
                  split at hb
                  · cases hb
                  · rename_i ps hps
                    cases hb
                    have hl : ∀ {l : List ByteArray} {ps : List PT}, rdPs l = some ps → ps.length = l.length := by
                      intro l
                      induction l with
                      | nil => intro ps h; cases h; rfl
                      | cons t l ih =>
                        intro ps h
                        unfold rdPs at h
                        split at h
                        · cases h
                        · split at h
                          · cases h
                          · rename_i us hu
                            cases h
                            rw [List.length_cons, List.length_cons, ih hu]
                    rw [hl hps]
                    exact hc.2.2.2
                · cases hb
      · cases h
    · cases h
  · cases h
theorem step_parts {num : Int} {acc : List (Int × BT)} {x : IT} (h : ∀ y ∈ acc, y.2.parts.length ≤ 512) : ∀ y ∈ landStep num acc x, y.2.parts.length ≤ 512 := by
  unfold landStep
  split
  · split
    · rename_i b hb
      split
      · intro y hy
        rcases List.mem_append.1 hy with hy | hy
        · exact h y hy
        · rw [List.mem_singleton] at hy
          subst hy
          exact rdBox_parts hb
      · exact h
    · exact h
  · exact h
theorem foldl_keep {α β : Type} {P : α → Prop} {f : α → β → α} (hf : ∀ a b, P a → P (f a b)) : ∀ (l : List β) (a : α), P a → P (l.foldl f a)
  | [], _, h => h
  | b :: l, a, h => foldl_keep hf l (f a b) (hf a b h)
theorem land_parts (l : List BK) : ∀ y ∈ land l, y.2.parts.length ≤ 512 :=
  foldl_keep (P := fun (acc : List (Int × BT)) => ∀ y ∈ acc, y.2.parts.length ≤ 512) (fun _ b h => foldl_keep (P := fun (acc : List (Int × BT)) => ∀ y ∈ acc, y.2.parts.length ≤ 512) (fun _ _ h => step_parts h) b.items _ h) l [] (fun _ h => by cases h)
theorem prs_parts {l : List LV} {bks : List BK} (h : prs l = land bks) : ∀ x ∈ l, x.b.parts.length ≤ 512 := fun x hx => by
  have := land_parts bks (x.block, x.b) (by rw [← h]; exact List.mem_map.2 ⟨x, hx, rfl⟩)
  exact this
theorem rsame13_any (la lb : List LV) (va vb : Value) (w : World) (ha : LsAt w va la) (hb : LsAt w vb lb) (hm : la.length ≤ 9223372036854775806) :
    Calls Tryd.prog 16 #[va, vb] w fun e w' => e = .returned (.bool (decide (prs la = prs lb))) ∧ Below w.heap.size w w' := by
  obtain ⟨qa, ca, hva⟩ : ∃ q c, va = .slice q la.length c := by
    obtain ⟨A, c', h, _⟩ := ha.1
    exact ⟨A, c', by rw [h, List.length_map]⟩
  obtain ⟨qb, cb, hvb⟩ : ∃ q c, vb = .slice q lb.length c := by
    obtain ⟨A, c', h, _⟩ := hb.1
    exact ⟨A, c', by rw [h, List.length_map]⟩
  subst hva hvb
  obtain ⟨r, hr⟩ : ∃ r, r = decide (prs la = prs lb) := ⟨_, rfl⟩
  rw [← hr]
  have HR := Lib.hid hr
  obtain ⟨n, hn⟩ : ∃ n, n = la.length := ⟨_, rfl⟩
  obtain ⟨m, hmm⟩ : ∃ m, m = lb.length := ⟨_, rfl⟩
  rw [← hn] at ha hm ⊢
  rw [← hmm] at hb ⊢
  have HA := Lib.hid ha
  have HB := Lib.hid hb
  have HN := Lib.hid hn
  have HM := Lib.hid hmm
  clear ha hb hr hn hmm
  by_cases hnm : n = m
  · subst hnm
    go_enter Tryd.func16, Tryd.ntmps16
    go_wp2_with fail
    go_loopw [5] (fun i_ wr => ∃ j : Nat, i_ = .int .i64 j ∧ j ≤ n ∧ Hid (∀ k, k < j → (prs la)[k]? = (prs lb)[k]?) ∧ Hid (Below w.heap.size w wr)) (fun i_ _ => match i_ with | .int _ k => n - k.toNat | _ => 0)
    case atStart => exact ⟨0, rfl, Nat.zero_le _, (show ∀ k, k < 0 → (prs la)[k]? = (prs lb)[k]? from fun k hk => absurd hk (Nat.not_lt_zero k)), (show Below _ _ _ from Below.refl _ _)⟩
    case round =>
      obtain ⟨j, rfl, hjn, HE, HBB⟩ := hrel
      by_cases hlt : j < n
      · have hja : j < la.length := by rw [← HN.out]; exact hlt
        have hjb : j < lb.length := by rw [← HM.out]; exact hlt
        obtain ⟨ga, oa, hq1, hga, -, hca⟩ := HA.out.1.at j (by rw [List.length_map]; exact hja)
        obtain ⟨gb, ob, hq2, hgb, -, hcb⟩ := HB.out.1.at j (by rw [List.length_map]; exact hjb)
        subst hq1 hq2
        rw [List.getElem_map] at hca hcb
        obtain ⟨x, hx⟩ : ∃ x, x = la[j]'hja := ⟨_, rfl⟩
        obtain ⟨y, hy⟩ : ∃ y, y = lb[j]'hjb := ⟨_, rfl⟩
        rw [← hx] at hca
        rw [← hy] at hcb
        have HPX := Lib.hid (HA.out.2 x (by rw [hx]; exact List.getElem_mem hja))
        have HPY := Lib.hid (HB.out.2 y (by rw [hy]; exact List.getElem_mem hjb))
        have HX : Hid ((prs la)[j]? = some (x.block, x.b)) := show _ = _ from by rw [hx, prs, List.getElem?_map, List.getElem?_eq_getElem hja]; rfl
        have HY : Hid ((prs lb)[j]? = some (y.block, y.b)) := show _ = _ from by rw [hy, prs, List.getElem?_map, List.getElem?_eq_getElem hjb]; rfl
        have HST : Hid ((x.block, x.b) = (y.block, y.b) → ∀ k, k < j + 1 → (prs la)[k]? = (prs lb)[k]?) := show _ → ∀ k, _ from fun h k hk => by
          by_cases h2 : k < j
          · exact HE.out k h2
          · have : k = j := by omega
            subst this
            rw [HX.out, HY.out, h]
        have HNO : Hid ((x.block, x.b) ≠ (y.block, y.b) → r = false) := show _ → _ from fun h => by
          rw [HR.out]
          refine decide_eq_false fun e => h ?_
          have h1 := HX.out
          rw [e, HY.out] at h1
          injection h1 with h1
          exact h1.symm
        have HCA : Hid (∀ j_ u, (LV.cells x)[j_]? = some u → w.cell? ⟨ga, oa + j * 5 + j_, none⟩ = some u) := show ∀ j_ u, _ from hca
        have HCB : Hid (∀ j_ u, (LV.cells y)[j_]? = some u → w.cell? ⟨gb, ob + j * 5 + j_, none⟩ = some u) := show ∀ j_ u, _ from hcb
        obtain ⟨n1, ⟨s1, f1, b1, p1⟩, pv1⟩ := x
        obtain ⟨n2, ⟨s2, f2, b2, p2⟩, pv2⟩ := y
        dsimp only at HST HNO
        have KEEP : Hid (∀ W, Below w.heap.size w W → W.cell? ⟨ga, oa + j * 5, none⟩ = some (.int .i64 n1) ∧ W.cell? ⟨ga, oa + j * 5 + 1, none⟩ = some (.int .i64 s1) ∧ W.cell? ⟨ga, oa + j * 5 + 1 + 1, none⟩ = some (.int .i64 f1) ∧ W.cell? ⟨ga, oa + j * 5 + 1 + 2, none⟩ = some (.int .i64 b1) ∧ W.cell? ⟨ga, oa + j * 5 + 1 + 3, none⟩ = some pv1 ∧ W.cell? ⟨gb, ob + j * 5, none⟩ = some (.int .i64 n2) ∧ W.cell? ⟨gb, ob + j * 5 + 1, none⟩ = some (.int .i64 s2) ∧ W.cell? ⟨gb, ob + j * 5 + 1 + 1, none⟩ = some (.int .i64 f2) ∧ W.cell? ⟨gb, ob + j * 5 + 1 + 2, none⟩ = some (.int .i64 b2) ∧ W.cell? ⟨gb, ob + j * 5 + 1 + 3, none⟩ = some pv2) := show ∀ W, _ from fun W hW => by
          refine ⟨?_, ?_, ?_, ?_, ?_, ?_, ?_, ?_, ?_, ?_⟩
          · exact (hW.cell (p := ⟨ga, _, none⟩) hga).trans (HCA.out 0 _ rfl)
          · exact (hW.cell (p := ⟨ga, _, none⟩) hga).trans (HCA.out 1 _ rfl)
          · exact (hW.cell (p := ⟨ga, _, none⟩) hga).trans (HCA.out 2 _ rfl)
          · exact (hW.cell (p := ⟨ga, _, none⟩) hga).trans (HCA.out 3 _ rfl)
          · exact (hW.cell (p := ⟨ga, _, none⟩) hga).trans (HCA.out 4 _ rfl)
          · exact (hW.cell (p := ⟨gb, _, none⟩) hgb).trans (HCB.out 0 _ rfl)
          · exact (hW.cell (p := ⟨gb, _, none⟩) hgb).trans (HCB.out 1 _ rfl)
          · exact (hW.cell (p := ⟨gb, _, none⟩) hgb).trans (HCB.out 2 _ rfl)
          · exact (hW.cell (p := ⟨gb, _, none⟩) hgb).trans (HCB.out 3 _ rfl)
          · exact (hW.cell (p := ⟨gb, _, none⟩) hgb).trans (HCB.out 4 _ rfl)
        have f0 : (0 : Int) ≤ j := by omega
        have f1' : (j : Int) < n := by omega
        have HBd : Hid (Below w.heap.size w wr.drew) := show Below _ _ _ from HBB.out.drew
        clear hca hcb hx hy hga hgb
        go_wp2_with fail
        by_cases hnn : n1 = n2
        · have qn : (n1 != n2) = false := by rw [hnn]; exact bne_self_eq_false _
          refine wp_region_held_drew (S := fun W => W.cell? ⟨ga, oa + j * 5, none⟩ = some (.int .i64 n1) ∧ W.cell? ⟨ga, oa + j * 5 + 1, none⟩ = some (.int .i64 s1) ∧ W.cell? ⟨ga, oa + j * 5 + 1 + 1, none⟩ = some (.int .i64 f1) ∧ W.cell? ⟨ga, oa + j * 5 + 1 + 2, none⟩ = some (.int .i64 b1) ∧ W.cell? ⟨ga, oa + j * 5 + 1 + 3, none⟩ = some pv1 ∧ W.cell? ⟨gb, ob + j * 5, none⟩ = some (.int .i64 n2) ∧ W.cell? ⟨gb, ob + j * 5 + 1, none⟩ = some (.int .i64 s2) ∧ W.cell? ⟨gb, ob + j * 5 + 1 + 1, none⟩ = some (.int .i64 f2) ∧ W.cell? ⟨gb, ob + j * 5 + 1 + 2, none⟩ = some (.int .i64 b2) ∧ W.cell? ⟨gb, ob + j * 5 + 1 + 3, none⟩ = some pv2) (by kernel_rfl) (KEEP.out _ HBd.out) (fun _ => ?_)
          refine rg_gen (i := 0) (v := ?_) rfl (by kernel_rfl) (by kernel_rfl) (by kernel_rfl) (fun _ _ _ h => h) rfl (by rfl) ?_ (by assumption) ?_
          rotate_left
          · intro w hSw
            try dsimp only at hSw
            go_simp
            try with_reducible rfl
          try simp only [Act.put, List.setIfInBounds_toArray, List.set_cons_zero, List.set_cons_succ]
          refine rg_gen (i := 1) (v := ?_) rfl (by kernel_rfl) (by kernel_rfl) (by kernel_rfl) (fun _ _ _ h => h) rfl (by rfl) ?_ (by assumption) ?_
          rotate_left
          · intro w hSw
            try dsimp only at hSw
            go_simp
            try with_reducible rfl
          try simp only [Act.put, List.setIfInBounds_toArray, List.set_cons_zero, List.set_cons_succ]
          refine rg_gen (i := 2) (v := ?_) rfl (by kernel_rfl) (by kernel_rfl) (by kernel_rfl) (fun _ _ _ h => h) rfl (by rfl) ?_ (by assumption) ?_
          rotate_left
          · intro w hSw
            try dsimp only at hSw
            go_simp
            try with_reducible rfl
          try simp only [Act.put, List.setIfInBounds_toArray, List.set_cons_zero, List.set_cons_succ]
          refine rg_gen (i := 3) (v := ?_) rfl (by kernel_rfl) (by kernel_rfl) (by kernel_rfl) (fun _ _ _ h => h) rfl (by rfl) ?_ (by assumption) ?_
          rotate_left
          · intro w hSw
            try dsimp only at hSw
            go_simp
            try with_reducible rfl
          try simp only [Act.put, List.setIfInBounds_toArray, List.set_cons_zero, List.set_cons_succ]
          refine rg_gen (i := 4) (v := ?_) rfl (by kernel_rfl) (by kernel_rfl) (by kernel_rfl) (fun _ _ _ h => h) rfl (by rfl) ?_ (by assumption) ?_
          rotate_left
          · intro w hSw
            try dsimp only at hSw
            go_simp
            try with_reducible rfl
          try simp only [Act.put, List.setIfInBounds_toArray, List.set_cons_zero, List.set_cons_succ]
          refine rg_gen (i := 5) (v := ?_) rfl (by kernel_rfl) (by kernel_rfl) (by kernel_rfl) (fun _ _ _ h => h) rfl (by rfl) ?_ (by assumption) ?_
          rotate_left
          · intro w hSw
            try dsimp only at hSw
            go_simp
            try with_reducible rfl
          try simp only [Act.put, List.setIfInBounds_toArray, List.set_cons_zero, List.set_cons_succ]
          refine rg_gen (i := 6) (v := ?_) rfl (by kernel_rfl) (by kernel_rfl) (by kernel_rfl) (fun _ _ _ h => h) rfl (by rfl) ?_ (by assumption) ?_
          rotate_left
          · intro w hSw
            try dsimp only at hSw
            go_simp
            try with_reducible rfl
          try simp only [Act.put, List.setIfInBounds_toArray, List.set_cons_zero, List.set_cons_succ]
          refine rg_gen (i := 7) (v := ?_) rfl (by kernel_rfl) (by kernel_rfl) (by kernel_rfl) (fun _ _ _ h => h) rfl (by rfl) ?_ (by assumption) ?_
          rotate_left
          · intro w hSw
            try dsimp only at hSw
            go_simp
            try with_reducible rfl
          try simp only [Act.put, List.setIfInBounds_toArray, List.set_cons_zero, List.set_cons_succ]
          refine rg_gen (i := 8) (v := ?_) rfl (by kernel_rfl) (by kernel_rfl) (by kernel_rfl) (fun _ _ _ h => h) rfl (by rfl) ?_ (by assumption) ?_
          rotate_left
          · intro w hSw
            try dsimp only at hSw
            go_simp
            try with_reducible rfl
          try simp only [Act.put, List.setIfInBounds_toArray, List.set_cons_zero, List.set_cons_succ]
          refine rg_gen (i := 9) (v := ?_) rfl (by kernel_rfl) (by kernel_rfl) (by kernel_rfl) (fun _ _ _ h => h) rfl (by rfl) ?_ (by assumption) ?_
          rotate_left
          · intro w hSw
            try dsimp only at hSw
            go_simp
            try with_reducible rfl
          try simp only [Act.put, List.setIfInBounds_toArray, List.set_cons_zero, List.set_cons_succ]
          refine rg_gen (i := 10) (v := ?_) rfl (by kernel_rfl) (by kernel_rfl) (by kernel_rfl) (fun _ _ _ h => h) rfl (by rfl) ?_ (by assumption) ?_
          rotate_left
          · intro w hSw
            try dsimp only at hSw
            go_simp
            try with_reducible rfl
          try simp only [Act.put, List.setIfInBounds_toArray, List.set_cons_zero, List.set_cons_succ]
          refine rg_gen (i := 11) (v := ?_) rfl (by kernel_rfl) (by kernel_rfl) (by kernel_rfl) (fun _ _ _ h => h) rfl (by rfl) ?_ (by assumption) ?_
          rotate_left
          · intro w hSw
            try dsimp only at hSw
            go_simp
            try with_reducible rfl
          try simp only [Act.put, List.setIfInBounds_toArray, List.set_cons_zero, List.set_cons_succ]
          refine rg_gen (i := 12) (v := ?_) rfl (by kernel_rfl) (by kernel_rfl) (by kernel_rfl) (fun _ _ _ h => h) rfl (by rfl) ?_ (by assumption) ?_
          rotate_left
          · intro w hSw
            try dsimp only at hSw
            go_simp
            try with_reducible rfl
          try simp only [Act.put, List.setIfInBounds_toArray, List.set_cons_zero, List.set_cons_succ]
          refine rg_gen (i := 13) (v := ?_) rfl (by kernel_rfl) (by kernel_rfl) (by kernel_rfl) (fun _ _ _ h => h) rfl (by rfl) ?_ (by assumption) ?_
          rotate_left
          · intro w hSw
            try dsimp only at hSw
            go_simp
            try with_reducible rfl
          try simp only [Act.put, List.setIfInBounds_toArray, List.set_cons_zero, List.set_cons_succ]
          refine rg_gen (i := 14) (v := ?_) rfl (by kernel_rfl) (by kernel_rfl) (by kernel_rfl) (fun _ _ _ h => h) rfl (by rfl) ?_ (by assumption) ?_
          rotate_left
          · intro w hSw
            try dsimp only at hSw
            go_simp
            try with_reducible rfl
          try simp only [Act.put, List.setIfInBounds_toArray, List.set_cons_zero, List.set_cons_succ]
          refine rg_gen (i := 15) (v := ?_) rfl (by kernel_rfl) (by kernel_rfl) (by kernel_rfl) (fun _ _ _ h => h) rfl (by rfl) ?_ (by assumption) ?_
          rotate_left
          · intro w hSw
            try dsimp only at hSw
            go_simp
            try with_reducible rfl
          try simp only [Act.put, List.setIfInBounds_toArray, List.set_cons_zero, List.set_cons_succ]
          refine rg_gen (i := 16) (v := ?_) rfl (by kernel_rfl) (by kernel_rfl) (by kernel_rfl) (fun _ _ _ h => h) rfl (by rfl) ?_ (by assumption) ?_
          rotate_left
          · intro w hSw
            try dsimp only at hSw
            go_simp
            try with_reducible rfl
          try simp only [Act.put, List.setIfInBounds_toArray, List.set_cons_zero, List.set_cons_succ]
          refine rg_gen (i := 17) (v := ?_) rfl (by kernel_rfl) (by kernel_rfl) (by kernel_rfl) (fun _ _ _ h => h) rfl (by rfl) ?_ (by assumption) ?_
          rotate_left
          · intro w hSw
            try dsimp only at hSw
            go_simp
            try with_reducible rfl
          try simp only [Act.put, List.setIfInBounds_toArray, List.set_cons_zero, List.set_cons_succ]
          refine rg_gen (i := 18) (v := ?_) rfl (by kernel_rfl) (by kernel_rfl) (by kernel_rfl) (fun _ _ _ h => h) rfl (by rfl) ?_ (by assumption) ?_
          rotate_left
          · intro w hSw
            try dsimp only at hSw
            go_simp
            try with_reducible rfl
          try simp only [Act.put, List.setIfInBounds_toArray, List.set_cons_zero, List.set_cons_succ]
          refine rg_gen (i := 19) (v := ?_) rfl (by kernel_rfl) (by kernel_rfl) (by kernel_rfl) (fun _ _ _ h => h) rfl (by rfl) ?_ (by assumption) ?_
          rotate_left
          · intro w hSw
            try dsimp only at hSw
            go_simp
            try with_reducible rfl
          try simp only [Act.put, List.setIfInBounds_toArray, List.set_cons_zero, List.set_cons_succ]
          refine rg_gen (i := 20) (v := ?_) rfl (by kernel_rfl) (by kernel_rfl) (by kernel_rfl) (fun _ _ _ h => h) rfl (by rfl) ?_ (by assumption) ?_
          rotate_left
          · intro w hSw
            try dsimp only at hSw
            go_simp
            try with_reducible rfl
          try simp only [Act.put, List.setIfInBounds_toArray, List.set_cons_zero, List.set_cons_succ]
          refine rg_gen (i := 21) (v := ?_) rfl (by kernel_rfl) (by kernel_rfl) (by kernel_rfl) (fun _ _ _ h => h) rfl (by rfl) ?_ (by assumption) ?_
          rotate_left
          · intro w hSw
            try dsimp only at hSw
            go_simp
            try with_reducible rfl
          try simp only [Act.put, List.setIfInBounds_toArray, List.set_cons_zero, List.set_cons_succ]
          have HC := batches_any ⟨s1, f1, b1, p1⟩ ⟨s2, f2, b2, p2⟩ pv1 pv2 wr.drew _ _ (HPX.out.1.kept HBd.out.size fun k hk _ => HBd.out.block k hk) (HPY.out.1.kept HBd.out.size fun k hk _ => HBd.out.block k hk) (Nat.le_trans HPX.out.2 (by decide))
          obtain ⟨ge, hge⟩ : ∃ ge, ge = decide ((⟨s1, f1, b1, p1⟩ : BT) = ⟨s2, f2, b2, p2⟩) := ⟨_, rfl⟩
          rw [← hge] at HC
          have HGE := Lib.hid hge
          have HC := Lib.hid HC
          clear hge
          refine rg_one (i := 22) (by kernel_rfl) rfl (fun K hK => ?_)
          rw [if_pos (by rfl)]
          go_simp
          go_at_call 15
          refine HC.out.mono ?_
          rintro e w3 ⟨rfl, hb3⟩
          have HB3 : Hid (Below w.heap.size w w3) := show Below _ _ _ from HBd.out.trans (hb3.mono HBd.out.size)
          clear hb3
          go_wp2_with fail
          refine hK.out _ _ (KEEP.out _ HB3.out) (fun _ => ?_)
          clear hK K
          try simp only [Act.put, List.setIfInBounds_toArray, List.set_cons_zero, List.set_cons_succ]
          refine rg_gen (i := 23) (v := ?_) rfl (by kernel_rfl) (by kernel_rfl) (by kernel_rfl) (fun _ _ _ h => h) rfl (by rfl) ?_ (by assumption) ?_
          rotate_left
          · intro w hSw
            try dsimp only at hSw
            go_simp
            try with_reducible rfl
          try simp only [Act.put, List.setIfInBounds_toArray, List.set_cons_zero, List.set_cons_succ]
          refine rg_gen (i := 24) (v := ?_) rfl (by kernel_rfl) (by kernel_rfl) (by kernel_rfl) (fun _ _ _ h => h) rfl (by rfl) ?_ (by assumption) ?_
          rotate_left
          · intro w hSw
            try dsimp only at hSw
            go_simp
            try with_reducible rfl
          try simp only [Act.put, List.setIfInBounds_toArray, List.set_cons_zero, List.set_cons_succ]
          refine wpAnyH_done (by kernel_rfl) ?_ _
          cases ge with
          | false =>
            have HF : Hid (r = false) := show _ = _ from HNO.out (fun e => by
              injection e with e1 e2
              have h := HGE.out.symm
              rw [decide_eq_false_iff_not] at h
              exact h e2)
            go_wp2_with fail
            go_ret
            exact ⟨by rw [HF.out]; rfl, HB3.out⟩
          | true =>
            have HE2 : Hid (∀ k, k < j + 1 → (prs la)[k]? = (prs lb)[k]?) := show ∀ k, _ from HST.out (by
              have h := HGE.out.symm
              rw [decide_eq_true_eq] at h
              rw [hnn, h])
            go_wp2_with fail
            go_roundw
            case rel => exact ⟨j + 1, by go_num, hlt, HE2, HB3⟩
            case measure => simp; omega
        · have qn : (n1 != n2) = true := bne_iff_ne.2 hnn
          have HF : Hid (r = false) := show _ = _ from HNO.out (fun e => hnn (by injection e))
          clear hnn
          refine wp_region_held_drew (S := fun W => W.cell? ⟨ga, oa + j * 5, none⟩ = some (.int .i64 n1) ∧ W.cell? ⟨ga, oa + j * 5 + 1, none⟩ = some (.int .i64 s1) ∧ W.cell? ⟨ga, oa + j * 5 + 1 + 1, none⟩ = some (.int .i64 f1) ∧ W.cell? ⟨ga, oa + j * 5 + 1 + 2, none⟩ = some (.int .i64 b1) ∧ W.cell? ⟨ga, oa + j * 5 + 1 + 3, none⟩ = some pv1 ∧ W.cell? ⟨gb, ob + j * 5, none⟩ = some (.int .i64 n2) ∧ W.cell? ⟨gb, ob + j * 5 + 1, none⟩ = some (.int .i64 s2) ∧ W.cell? ⟨gb, ob + j * 5 + 1 + 1, none⟩ = some (.int .i64 f2) ∧ W.cell? ⟨gb, ob + j * 5 + 1 + 2, none⟩ = some (.int .i64 b2) ∧ W.cell? ⟨gb, ob + j * 5 + 1 + 3, none⟩ = some pv2) (by kernel_rfl) (KEEP.out _ HBd.out) (fun _ => ?_)
          refine rg_gen (i := 0) (v := ?_) rfl (by kernel_rfl) (by kernel_rfl) (by kernel_rfl) (fun _ _ _ h => h) rfl (by rfl) ?_ (by assumption) ?_
          rotate_left
          · intro w hSw
            try dsimp only at hSw
            go_simp
            try with_reducible rfl
          try simp only [Act.put, List.setIfInBounds_toArray, List.set_cons_zero, List.set_cons_succ]
          refine rg_gen (i := 1) (v := ?_) rfl (by kernel_rfl) (by kernel_rfl) (by kernel_rfl) (fun _ _ _ h => h) rfl (by rfl) ?_ (by assumption) ?_
          rotate_left
          · intro w hSw
            try dsimp only at hSw
            go_simp
            try with_reducible rfl
          try simp only [Act.put, List.setIfInBounds_toArray, List.set_cons_zero, List.set_cons_succ]
          refine rg_gen (i := 2) (v := ?_) rfl (by kernel_rfl) (by kernel_rfl) (by kernel_rfl) (fun _ _ _ h => h) rfl (by rfl) ?_ (by assumption) ?_
          rotate_left
          · intro w hSw
            try dsimp only at hSw
            go_simp
            try with_reducible rfl
          try simp only [Act.put, List.setIfInBounds_toArray, List.set_cons_zero, List.set_cons_succ]
          refine rg_gen (i := 3) (v := ?_) rfl (by kernel_rfl) (by kernel_rfl) (by kernel_rfl) (fun _ _ _ h => h) rfl (by rfl) ?_ (by assumption) ?_
          rotate_left
          · intro w hSw
            try dsimp only at hSw
            go_simp
            try with_reducible rfl
          try simp only [Act.put, List.setIfInBounds_toArray, List.set_cons_zero, List.set_cons_succ]
          refine rg_gen (i := 4) (v := ?_) rfl (by kernel_rfl) (by kernel_rfl) (by kernel_rfl) (fun _ _ _ h => h) rfl (by rfl) ?_ (by assumption) ?_
          rotate_left
          · intro w hSw
            try dsimp only at hSw
            go_simp
            try with_reducible rfl
          try simp only [Act.put, List.setIfInBounds_toArray, List.set_cons_zero, List.set_cons_succ]
          refine rg_gen (i := 5) (v := ?_) rfl (by kernel_rfl) (by kernel_rfl) (by kernel_rfl) (fun _ _ _ h => h) rfl (by rfl) ?_ (by assumption) ?_
          rotate_left
          · intro w hSw
            try dsimp only at hSw
            go_simp
            try with_reducible rfl
          try simp only [Act.put, List.setIfInBounds_toArray, List.set_cons_zero, List.set_cons_succ]
          refine rg_gen (i := 6) (v := ?_) rfl (by kernel_rfl) (by kernel_rfl) (by kernel_rfl) (fun _ _ _ h => h) rfl (by rfl) ?_ (by assumption) ?_
          rotate_left
          · intro w hSw
            try dsimp only at hSw
            go_simp
            try with_reducible rfl
          try simp only [Act.put, List.setIfInBounds_toArray, List.set_cons_zero, List.set_cons_succ]
          refine rg_gen (i := 7) (v := ?_) rfl (by kernel_rfl) (by kernel_rfl) (by kernel_rfl) (fun _ _ _ h => h) rfl (by rfl) ?_ (by assumption) ?_
          rotate_left
          · intro w hSw
            try dsimp only at hSw
            go_simp
            try with_reducible rfl
          try simp only [Act.put, List.setIfInBounds_toArray, List.set_cons_zero, List.set_cons_succ]
          refine rg_gen (i := 8) (v := ?_) rfl (by kernel_rfl) (by kernel_rfl) (by kernel_rfl) (fun _ _ _ h => h) rfl (by rfl) ?_ (by assumption) ?_
          rotate_left
          · intro w hSw
            try dsimp only at hSw
            go_simp
            try with_reducible rfl
          try simp only [Act.put, List.setIfInBounds_toArray, List.set_cons_zero, List.set_cons_succ]
          refine rg_gen (i := 9) (v := ?_) rfl (by kernel_rfl) (by kernel_rfl) (by kernel_rfl) (fun _ _ _ h => h) rfl (by rfl) ?_ (by assumption) ?_
          rotate_left
          · intro w hSw
            try dsimp only at hSw
            go_simp
            try with_reducible rfl
          try simp only [Act.put, List.setIfInBounds_toArray, List.set_cons_zero, List.set_cons_succ]
          refine rg_gen (i := 10) (v := ?_) rfl (by kernel_rfl) (by kernel_rfl) (by kernel_rfl) (fun _ _ _ h => h) rfl (by rfl) ?_ (by assumption) ?_
          rotate_left
          · intro w hSw
            try dsimp only at hSw
            go_simp
            try with_reducible rfl
          try simp only [Act.put, List.setIfInBounds_toArray, List.set_cons_zero, List.set_cons_succ]
          refine rg_gen (i := 11) (v := ?_) rfl (by kernel_rfl) (by kernel_rfl) (by kernel_rfl) (fun _ _ _ h => h) rfl (by rfl) ?_ (by assumption) ?_
          rotate_left
          · intro w hSw
            try dsimp only at hSw
            go_simp
            try with_reducible rfl
          try simp only [Act.put, List.setIfInBounds_toArray, List.set_cons_zero, List.set_cons_succ]
          refine rg_skip (i := 12) rfl (by kernel_rfl) (by kernel_rfl) (by kernel_rfl) (fun _ _ _ h => h) rfl (by rfl) (by assumption) ?_
          try simp only [Act.put, List.setIfInBounds_toArray, List.set_cons_zero, List.set_cons_succ]
          refine rg_skip (i := 13) rfl (by kernel_rfl) (by kernel_rfl) (by kernel_rfl) (fun _ _ _ h => h) rfl (by rfl) (by assumption) ?_
          try simp only [Act.put, List.setIfInBounds_toArray, List.set_cons_zero, List.set_cons_succ]
          refine rg_skip (i := 14) rfl (by kernel_rfl) (by kernel_rfl) (by kernel_rfl) (fun _ _ _ h => h) rfl (by rfl) (by assumption) ?_
          try simp only [Act.put, List.setIfInBounds_toArray, List.set_cons_zero, List.set_cons_succ]
          refine rg_skip (i := 15) rfl (by kernel_rfl) (by kernel_rfl) (by kernel_rfl) (fun _ _ _ h => h) rfl (by rfl) (by assumption) ?_
          try simp only [Act.put, List.setIfInBounds_toArray, List.set_cons_zero, List.set_cons_succ]
          refine rg_skip (i := 16) rfl (by kernel_rfl) (by kernel_rfl) (by kernel_rfl) (fun _ _ _ h => h) rfl (by rfl) (by assumption) ?_
          try simp only [Act.put, List.setIfInBounds_toArray, List.set_cons_zero, List.set_cons_succ]
          refine rg_skip (i := 17) rfl (by kernel_rfl) (by kernel_rfl) (by kernel_rfl) (fun _ _ _ h => h) rfl (by rfl) (by assumption) ?_
          try simp only [Act.put, List.setIfInBounds_toArray, List.set_cons_zero, List.set_cons_succ]
          refine rg_skip (i := 18) rfl (by kernel_rfl) (by kernel_rfl) (by kernel_rfl) (fun _ _ _ h => h) rfl (by rfl) (by assumption) ?_
          try simp only [Act.put, List.setIfInBounds_toArray, List.set_cons_zero, List.set_cons_succ]
          refine rg_skip (i := 19) rfl (by kernel_rfl) (by kernel_rfl) (by kernel_rfl) (fun _ _ _ h => h) rfl (by rfl) (by assumption) ?_
          try simp only [Act.put, List.setIfInBounds_toArray, List.set_cons_zero, List.set_cons_succ]
          refine rg_skip (i := 20) rfl (by kernel_rfl) (by kernel_rfl) (by kernel_rfl) (fun _ _ _ h => h) rfl (by rfl) (by assumption) ?_
          try simp only [Act.put, List.setIfInBounds_toArray, List.set_cons_zero, List.set_cons_succ]
          refine rg_skip (i := 21) rfl (by kernel_rfl) (by kernel_rfl) (by kernel_rfl) (fun _ _ _ h => h) rfl (by rfl) (by assumption) ?_
          try simp only [Act.put, List.setIfInBounds_toArray, List.set_cons_zero, List.set_cons_succ]
          refine rg_skip (i := 22) rfl (by kernel_rfl) (by kernel_rfl) (by kernel_rfl) (fun _ _ _ h => h) rfl (by rfl) (by assumption) ?_
          try simp only [Act.put, List.setIfInBounds_toArray, List.set_cons_zero, List.set_cons_succ]
          refine rg_skip (i := 23) rfl (by kernel_rfl) (by kernel_rfl) (by kernel_rfl) (fun _ _ _ h => h) rfl (by rfl) (by assumption) ?_
          try simp only [Act.put, List.setIfInBounds_toArray, List.set_cons_zero, List.set_cons_succ]
          refine rg_gen (i := 24) (v := ?_) rfl (by kernel_rfl) (by kernel_rfl) (by kernel_rfl) (fun _ _ _ h => h) rfl (by rfl) ?_ (by assumption) ?_
          rotate_left
          · intro w hSw
            try dsimp only at hSw
            go_simp
            try with_reducible rfl
          try simp only [Act.put, List.setIfInBounds_toArray, List.set_cons_zero, List.set_cons_succ]
          refine wpAnyH_done (by kernel_rfl) ?_ _
          go_wp2_with fail
          go_ret
          exact ⟨by rw [HF.out]; rfl, HBd.out⟩
      · obtain rfl : j = n := by omega
        have d9 : decide ((j : Int) < j) = false := decide_eq_false (by omega)
        have HF : Hid (r = true) := show _ = _ from by
          rw [HR.out]
          refine decide_eq_true (List.ext_getElem? fun k => ?_)
          by_cases hk : k < j
          · exact HE.out k hk
          · rw [List.getElem?_eq_none (by rw [prs_len, ← HN.out]; omega), List.getElem?_eq_none (by rw [prs_len, ← HM.out]; omega)]
        go_wp2_with fail
        go_ret
        exact ⟨by rw [HF.out]; rfl, HBB.out⟩
  · have q0 : ((n : Int) != (m : Int)) = true := by rw [bne_iff_ne]; omega
    have HF : Hid (r = false) := show _ = _ from by
      rw [HR.out]
      exact decide_eq_false fun e => hnm (by
        have h := congrArg List.length e
        rw [prs_len, prs_len] at h
        rw [HN.out, HM.out, h])
    go_enter Tryd.func16, Tryd.ntmps16
    go_wp2_with fail
    go_ret
    exact ⟨by rw [HF.out]; rfl, Below.refl _ _⟩
end Go.Proofs.YtbeooeihedhabaaDoor
