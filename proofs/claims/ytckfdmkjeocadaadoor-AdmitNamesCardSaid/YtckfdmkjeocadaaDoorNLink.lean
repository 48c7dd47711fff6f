/- A receipt in plain Lean; receipts compared. notes.number, notes.lay, notes.write, notes.receipt: what the calls do. notes.link, notes.Link: what the calls do. -/
import Derived.Test.YtckfdmkjeocadaaDoorLaw04
import Derived.Test.YtckfdmkjeocadaaDoorReg
namespace Go.Proofs.YtckfdmkjeocadaaDoor
open Go.RowKit
set_option maxHeartbeats 1000000
set_option maxRecDepth 4000
structure RC where
  index : Int
  kind : Int
  time : Int
  body : ByteArray
  prev : List UInt8
  hash : List UInt8
instance : DecidableEq RC := fun a b => by
  cases a; cases b
  rw [RC.mk.injEq]
  infer_instance
structure RC.wf (r : RC) : Prop where
  index : i64ok r.index
  kind : i64ok r.kind
  time : i64ok r.time
  body : r.body.size ≤ 140737488351232
  prev : r.prev.length = 32
  hash : r.hash.length = 32
def RC.cells (r : RC) : List Value := [.int .i64 r.index, .int .i64 r.kind, .int .i64 r.time, .string r.body] ++ (u8s r.prev ++ u8s r.hash)
theorem RC.cells_length {r : RC} (h1 : r.prev.length = 32) (h2 : r.hash.length = 32) : r.cells.length = 68 := by simp [RC.cells, u8s_length, h1, h2]
theorem RC.at_prev {r : RC} : ∀ j v, (u8s r.prev)[j]? = some v → r.cells[4 + j]? = some v := by
  intro j v h
  have hlt : j < (u8s r.prev).length := by
    rcases Nat.lt_or_ge j (u8s r.prev).length with h1 | h1
    · exact h1
    · rw [List.getElem?_eq_none h1] at h; cases h
  rw [RC.cells, List.getElem?_append_right (by simp), List.getElem?_append_left (by simp; omega)]
  simpa using h
theorem RC.at_hash {r : RC} (h1 : r.prev.length = 32) : ∀ j v, (u8s r.hash)[j]? = some v → r.cells[36 + j]? = some v := by
  intro j v h
  rw [RC.cells, List.getElem?_append_right (by simp; omega), List.getElem?_append_right (by simp [u8s_length, h1]; omega)]
  simp only [u8s_length, h1, List.length_cons, List.length_nil]
  rw [show 36 + j - (0 + 1 + 1 + 1 + 1) - 32 = j by omega]
  exact h
theorem RC.prev_part {r : RC} (h : r.wf) : (r.cells.drop 4).take 32 = u8s r.prev := by
  have h2 : (u8s r.prev).length = 32 := by rw [u8s_length]; exact h.prev
  simp [RC.cells, h2]
theorem RC.hash_part {r : RC} (h : r.wf) : (r.cells.drop 36).take 32 = u8s r.hash := by
  have h2 : (u8s r.prev).length = 32 := by rw [u8s_length]; exact h.prev
  have h3 : (u8s r.hash).length = 32 := by rw [u8s_length]; exact h.hash
  simp only [RC.cells]
  rw [List.drop_append, List.drop_eq_nil_of_le (by simp), List.nil_append, List.drop_append, List.drop_eq_nil_of_le (by simp [h2]), List.nil_append, List.take_of_length_le]
  · simp [h2]
  · simp [h2, h3]
def RC.zero : RC := ⟨0, 0, 0, ByteArray.empty, z32, z32⟩
abbrev zlRc : List Value := [.int .i64 0, .int .i64 0, .int .i64 0, .string ByteArray.empty, .int .u8 0, .int .u8 0, .int .u8 0, .int .u8 0, .int .u8 0, .int .u8 0, .int .u8 0, .int .u8 0, .int .u8 0, .int .u8 0, .int .u8 0, .int .u8 0, .int .u8 0, .int .u8 0, .int .u8 0, .int .u8 0, .int .u8 0, .int .u8 0, .int .u8 0, .int .u8 0, .int .u8 0, .int .u8 0, .int .u8 0, .int .u8 0, .int .u8 0, .int .u8 0, .int .u8 0, .int .u8 0, .int .u8 0, .int .u8 0, .int .u8 0, .int .u8 0, .int .u8 0, .int .u8 0, .int .u8 0, .int .u8 0, .int .u8 0, .int .u8 0, .int .u8 0, .int .u8 0, .int .u8 0, .int .u8 0, .int .u8 0, .int .u8 0, .int .u8 0, .int .u8 0, .int .u8 0, .int .u8 0, .int .u8 0, .int .u8 0, .int .u8 0, .int .u8 0, .int .u8 0, .int .u8 0, .int .u8 0, .int .u8 0, .int .u8 0, .int .u8 0, .int .u8 0, .int .u8 0, .int .u8 0, .int .u8 0, .int .u8 0, .int .u8 0]
theorem zlRc_eq : zlRc = RC.zero.cells := rfl
theorem RC.zero_wf : RC.zero.wf := ⟨i64_zero, i64_zero, i64_zero, by decide, rfl, rfl⟩
theorem rc_info {r : RC} (h : r.wf) : (Tryd.prog.info? 61).map (·.size) = some r.cells.length := by rw [RC.cells_length h.prev h.hash]; kernel_rfl
theorem rc_len {r : RC} (h : r.wf) : r.cells.length = zlRc.length := RC.cells_length h.prev h.hash
theorem rc_one (r : RC) : ∀ v ∈ r.cells, v.oneCell' = true := by
  intro v hv
  unfold RC.cells at hv
  rcases List.mem_append.1 hv with hv | hv
  · simp only [List.mem_cons, List.not_mem_nil, or_false] at hv
    rcases hv with rfl | rfl | rfl | rfl <;> rfl
  · rcases List.mem_append.1 hv with hv | hv
    · exact u8s_one _ v hv
    · exact u8s_one _ v hv
theorem rc_zero (w : World) : (zeroValue 61).run Tryd.prog w = .ok (.agg zlRc.toArray) w := by kernel_rfl
theorem rc_build0 (w : World) : (Instr.build 61 #[]).run Tryd.prog w = .ok (.agg zlRc.toArray) w :=
  run_build_struct (parts := #[]) (places := #[(0, 1), (1, 1), (2, 1), (3, 1), (4, 32), (36, 32)]) w (rc_zero w) Tryd.underlying61 (by kernel_rfl) rfl
theorem rc_build (a b c : Int) (s : ByteArray) {h : List UInt8} (hl : h.length = 32) (w : World) :
    (Instr.build 61 #[(0, .int .i64 a), (1, .int .i64 b), (2, .int .i64 c), (3, .string s), (4, .agg (u8s h).toArray)]).run Tryd.prog w = .ok (.agg (RC.cells ⟨a, b, c, s, h, z32⟩).toArray) w := by
  refine run_build_struct (places := #[(0, 1), (1, 1), (2, 1), (3, 1), (4, 32), (36, 32)]) w (rc_zero w) Tryd.underlying61 (by kernel_rfl) ?_
  rw [fill_cons (off := 0) (size := 1) rfl rfl (by decide), fill_cons (off := 1) (size := 1) rfl rfl (by simp [splice, Value.cells]), fill_cons (off := 2) (size := 1) rfl rfl (by simp [splice, Value.cells]), fill_cons (off := 3) (size := 1) rfl rfl (by simp [splice, Value.cells]), fill_cons (off := 4) (size := 32) rfl (by simp [Value.cells, u8s_length, hl]) (by simp [splice, Value.cells])]
  rw [Instr.fill]
  congr 1
  have hz : u8s z32 = zl32 := zl32_eq.symm
  simp only [Value.cells, splice, u8s_length, hl, RC.cells, zlRc, hz, zl32]
  simp
theorem rc_eq {t u : RC} (ht : t.wf) (hu : u.wf) (w : World) : (Op.equalIn 10000 61 (.agg t.cells.toArray) (.agg u.cells.toArray)).run Tryd.prog w = .ok (decide (t = u)) w := by
  rw [run_equalIn_struct w 9999 _ _ _ (by simp only [Program.fieldsOf, Tryd.underlying61]) (by kernel_rfl)]
  simp only [Program.fieldsOf, Tryd.underlying61, Op.eqFields]
  rw [if_pos (by decide), if_pos (by decide), if_pos (by decide), if_pos (by decide), if_pos (by decide), if_pos (by decide)]
  have p0 := part_int Tryd.underlying3 t.cells 0 (.int .i64 t.index) rfl
  have p1 := part_int Tryd.underlying3 t.cells 1 (.int .i64 t.kind) rfl
  have p2 := part_int Tryd.underlying3 t.cells 2 (.int .i64 t.time) rfl
  have p3 := part_str t.cells 3 (.string t.body) rfl
  have p4 := part_hash t.cells 4 t.prev (RC.prev_part ht)
  have p5 := part_hash t.cells 36 t.hash (RC.hash_part ht)
  have q0 := part_int Tryd.underlying3 u.cells 0 (.int .i64 u.index) rfl
  have q1 := part_int Tryd.underlying3 u.cells 1 (.int .i64 u.kind) rfl
  have q2 := part_int Tryd.underlying3 u.cells 2 (.int .i64 u.time) rfl
  have q3 := part_str u.cells 3 (.string u.body) rfl
  have q4 := part_hash u.cells 4 u.prev (RC.prev_part hu)
  have q5 := part_hash u.cells 36 u.hash (RC.hash_part hu)
  have e3 := fun w => eq_hash2 ht.prev hu.prev w
  have e4 := fun w => eq_hash2 ht.hash hu.hash w
  have i1 : ∀ (a b : Int) (w : World), (Op.equalIn 9999 3 (.int .i64 a) (.int .i64 b)).run Tryd.prog w = .ok (a == b) w := fun a b w => run_equalIn_int w 9998 _ _ _ a b Tryd.underlying3
  have i3 : ∀ (a b : ByteArray) (w : World), (Op.equalIn 9999 9 (.string a) (.string b)).run Tryd.prog w = .ok (decide (a = b)) w := fun a b w => by rw [run_equalIn_string w 9998 _ a b Tryd.underlying9, bytes_beq]
  simp only [Sem.run_bind, Sem.run_ite, Sem.run_pure, Result.andThen_ok, e3, e4, i1, i3, p0, p1, p2, p3, p4, p5, q0, q1, q2, q3, q4, q5]
  by_cases h0 : t.index = u.index
  case neg => rw [decide_eq_false (fun h : t = u => h0 (congrArg RC.index h))]; simp [h0]
  case pos =>
    by_cases h1 : t.kind = u.kind
    case neg => rw [decide_eq_false (fun h : t = u => h1 (congrArg RC.kind h))]; simp [h1]
    case pos =>
      by_cases h2 : t.time = u.time
      case neg => rw [decide_eq_false (fun h : t = u => h2 (congrArg RC.time h))]; simp [h2]
      case pos =>
        by_cases h3 : t.body = u.body
        case neg => rw [decide_eq_false (fun h : t = u => h3 (congrArg RC.body h))]; simp [h3]
        case pos =>
          by_cases h4 : t.prev = u.prev
          case neg => rw [decide_eq_false (fun h : t = u => h4 (congrArg RC.prev h))]; simp [h4]
          case pos =>
            by_cases h5 : t.hash = u.hash
            case neg => rw [decide_eq_false (fun h : t = u => h5 (congrArg RC.hash h))]; simp [h5]
            case pos =>
              have h : t = u := by
                cases t; cases u; simp_all
              rw [decide_eq_true h]
              simp [h]
/-- what a receipt is hashed of -/
def RC.laid (r : RC) : List UInt8 := encList (numSs [r.index.toNat, r.kind.toNat, r.time.toNat] ++ [r.body])
def RC.link (r : RC) : List UInt8 := sha (r.prev ++ r.laid)
def RC.good (r : RC) : Bool := (numOk r.index && numOk r.time) && (decide (r.kind = 1) || decide (r.kind = 2)) && decide (r.body.size ≤ 656)
/-- the receipt behind another one -/
def linkOf (prev : List UInt8) (index kind time : Int) (body : ByteArray) : RC := { index := index, kind := kind, time := time, body := body, prev := prev, hash := (RC.mk index kind time body prev z32).link }
open Go.RowKit
set_option maxHeartbeats 1000000
set_option maxRecDepth 4000
def i64s (l : List Int) : List Value := l.map (Value.int .i64)
theorem i64s_at {w : World} {bn : Nat} {l : List Int} {t : TypeId} {fr : Nat × Nat} (h : w.heap[bn]? = some (.cells (i64s l).toArray t fr)) {k : Nat} (hk : k < l.length) : w.cell? ⟨bn, k, none⟩ = some (.int .i64 (l[k]'hk)) := by
  rw [cell_of_row w bn k _ _ _ h, List.getElem?_toArray]
  simp [i64s, List.getElem?_eq_getElem hk]
theorem all_snoc {α : Type} (p : α → Bool) (l : List α) (k : Nat) (h : k < l.length) : (l.take (k + 1)).all p = ((l.take k).all p && p (l[k]'h)) := by
  rw [List.take_succ_eq_append_getElem h, List.all_append]
  simp
theorem all_bad {α : Type} (p : α → Bool) (l : List α) (k : Nat) (h : k < l.length) (hp : p (l[k]'h) = false) : l.all p = false := by
  rw [List.all_eq_false]
  exact ⟨_, List.getElem_mem h, by rw [hp]; decide⟩
theorem nnum_any (l : List Int) (w : World) (bn : Nat) (hn : w.heap[bn]? = some (.cells (i64s l).toArray 3 (0, 0))) (hl : l.length ≤ 16) :
    Calls Tryd.prog 111 #[.slice (some ⟨bn, 0, none⟩) l.length l.length] w fun e w' => e = .returned (.bool (l.all numOk)) ∧ w' = w := by
  have HN := Lib.hid hn
  clear hn
  go_enter Tryd.func111, Tryd.ntmps111
  go_wp2_with fail
  go_loopw [7] (fun i wr => ∃ k : Nat, k ≤ l.length ∧ i = .int .i64 k ∧ Hid ((l.take k).all numOk = true) ∧ wr = w) (fun i _ => l.length - (intOf i).toNat)
  case atStart => exact ⟨0, by omega, rfl, show _ = _ from rfl, rfl⟩
  case round =>
    obtain ⟨k, hk2, rfl, hA, rfl⟩ := hrel
    by_cases hlt : k < l.length
    · have hc := i64s_at HN.out hlt
      by_cases h0 : l[k] < 0
      · have hd := decide_eq_true h0
        have hf : l.all numOk = false := all_bad _ _ _ hlt (by simp [numOk]; omega)
        have HF := Lib.hid hf
        clear hf
        go_wp2_with fail
        go_ret
        exact ⟨by rw [HF.out]; rfl, rfl⟩
      · have hd := decide_eq_false h0
        by_cases h1 : 1099511627776 < l[k]
        · have hd1 := decide_eq_true h1
          have hf : l.all numOk = false := all_bad _ _ _ hlt (by simp [numOk]; omega)
          have HF := Lib.hid hf
          clear hf
          go_wp2_with fail
          go_ret
          exact ⟨by rw [HF.out]; rfl, rfl⟩
        · have hd1 := decide_eq_false h1
          go_wp2_with fail
          go_roundw
          case rel => exact ⟨k + 1, by omega, by go_num, show _ = _ by rw [all_snoc _ _ _ hlt, hA.out]; simp [numOk]; omega, trivial⟩
          case measure => simp [intOf]; omega
    · obtain rfl : k = l.length := by omega
      have hf : l.all numOk = true := by rw [← hA.out, List.take_length]
      have HF := Lib.hid hf
      clear hf
      go_wp2_with fail
      go_ret
      exact ⟨by rw [HF.out]; rfl, rfl⟩
theorem ints_toNat {l : List Int} (h : l.all numOk = true) : i64s l = ints (l.map Int.toNat) := by
  unfold i64s ints
  rw [List.map_map]
  refine List.map_congr_left fun x hx => ?_
  have := List.all_eq_true.1 h x hx
  simp only [numOk, decide_eq_true_eq] at this
  simp only [Function.comp]
  rw [Int.toNat_of_nonneg this.1]
theorem lay_any (l : List Nat) (w : World) (bn : Nat) (hl : ∀ k (h : k < l.length), l[k]'h ≤ 1099511627776) (hk : l.length ≤ 16) (hn : w.heap[bn]? = some (.cells (ints l).toArray 3 (0, 0))) :
    Calls Tryd.prog 113 #[.slice (some ⟨bn, 0, none⟩) l.length l.length] w fun e w' => (∃ v, e = .returned v ∧ w'.ownsRow w.heap.size 9 1 v l.length (strs (numSs l))) ∧ Below w.heap.size w w' := by
  have HL := Lib.hid hl
  have HN := Lib.hid hn
  have hbn := block_lt hn
  clear hl hn
  go_enter Tryd.func113, Tryd.ntmps113
  go_wp2_with fail
  go_loopw [3, 10] (fun o i wr => ∃ k : Nat, k ≤ l.length ∧ i = .int .i64 k ∧ Hid (Below w.heap.size w wr) ∧ Hid (wr.ownsRow w.heap.size 9 1 o k (strs (numSs (l.take k))))) (fun _ i _ => l.length - (intOf i).toNat)
  case atStart => exact ⟨0, by omega, rfl, Below.refl _ _, own_nil _ _ _ _⟩
  case round =>
    obtain ⟨k, hk2, rfl, hB, hO⟩ := hrel
    by_cases hlt : k < l.length
    · have hc := ints_at ((hB.out.block _ hbn).trans HN.out) hlt
      have hx := HL.out k hlt
      go_wp2_with fail
      refine (number_any _ _ (by omega) (by omega)).mono ?_
      rintro e w2 ⟨rfl, hb2⟩
      have HB2 := Lib.hid (bw_call hB.out hb2)
      have HO2 := Lib.hid (own_below hO.out hb2 (Nat.le_refl _))
      clear hb2 hc
      go_wp2_with ((at_builtin; refine wpList_app1 rfl (.tmp 19) (.tmp 21) 80 9 rfl Tryd.underlying80 _ str_info (.string ByteArray.empty) rfl rfl rfl 16 rfl w.heap.size _ k _ rfl HO2.out (.string (numS l[k])) rfl rfl 9 (by omega) (by omega) w HB2.out HB2.out.size (Nat.le_refl _) ?_); intro v3 w3 hO3 hB3)
      go_roundw
      case rel => exact ⟨k + 1, by omega, by go_num, hB3, show _ from by have := hO3.out; rw [← strs_one, ← strs_app, ← numSs_snoc _ _ hlt] at this; exact this⟩
      case measure => simp [intOf]; omega
    · obtain rfl : k = l.length := by omega
      go_wp2_with fail
      go_ret
      refine ⟨⟨_, rfl, ?_⟩, hB.out⟩
      have := hO.out
      rw [List.take_length] at this
      exact this
theorem nwrite_ok (v : Value) (ls : List ByteArray) (w : World) (hv : RdStrs w v ls) (hl : ls.length ≤ 1024) (ht : tot ls ≤ 65536) :
    Calls Tryd.prog 112 #[v] w fun e w' => e = .returned (.tuple #[.string (bstr (encList ls)), .int .i64 0]) ∧ Below w.heap.size w w' := by
  have HV := Lib.hid hv
  clear hv
  go_enter Tryd.func112, Tryd.ntmps112
  go_wp2_with fail
  refine (list_ok v ls _ HV.out hl ht).mono ?_
  rintro e w1 ⟨rfl, hb⟩
  have HB := Lib.hid hb
  clear hb
  go_wp2_with fail
  go_ret2
  exact ⟨rfl, HB.out⟩
def RcAt (w wr : World) (r : RC) : Prop := Below w.heap.size w wr ∧ wr.heap[w.heap.size]? = some (.cells r.cells.toArray 61 (0, 0))
theorem RcAt.start (w : World) (t : RC) : RcAt w (w.alloc (.cells t.cells.toArray 61)) t := ⟨bw_alloc (Below.refl _ _) _, heap_alloc_new _ _⟩
theorem RcAt.cell {w wr : World} {t : RC} (h : RcAt w wr t) (k : Nat) (v : Value) (hk : t.cells[k]? = some v) : wr.cell? ⟨w.heap.size, k, none⟩ = some v := by
  rw [cell_of_row wr w.heap.size k _ _ _ h.2, List.getElem?_toArray]
  exact hk
theorem RcAt.next {w W : World} {t : RC} (h : RcAt w W t) {W' : World} (hb : Below W.heap.size W W') : RcAt w W' t := ⟨bw_call h.1 hb, (hb.block _ (block_lt h.2)).trans h.2⟩
theorem RcAt.grown {w W W' : World} {t : RC} {row : Option Nat} (h : RcAt w W t) (hg : W.grownBy W' row) (hr : ∀ k, row = some k → w.heap.size < k) : RcAt w W' t :=
  ⟨h.1.grown hg h.1.size (fun k hk => Nat.le_of_lt (hr k hk)), (hg.block _ (block_lt h.2) (fun e => by have := hr _ e.symm; omega)).trans h.2⟩
theorem receipt_any (r : RC) (w : World) (hr : r.wf) :
    Calls Tryd.prog 109 #[.agg r.cells.toArray] w fun e w' => e = .returned (.bool r.good) ∧ Below w.heap.size w w' := by
  have HR := Lib.hid hr
  have hA0 := RcAt.start w r
  have c0 := hA0.cell 0 _ rfl
  have c2 := hA0.cell 2 _ rfl
  have HA0 := Lib.hid hA0
  obtain ⟨g, hg⟩ : ∃ g, g = r.good := ⟨_, rfl⟩
  rw [← hg]
  have HG := Lib.hid hg
  clear hr hA0 hg
  go_enter Tryd.func109, Tryd.ntmps109
  go_wp2_with fail
  have hN1 : ((w.alloc (.cells r.cells.toArray 61)).alloc (.cells (i64s [r.index, r.time]).toArray 3)).heap[w.heap.size + 1]? = some (.cells (i64s [r.index, r.time]).toArray 3 (0, 0)) := heap_alloc2_new w _ _
  refine (nnum_any [r.index, r.time] _ (w.heap.size + 1) hN1 (show 2 ≤ 16 by decide)).mono ?_
  rintro e w1 ⟨rfl, rfl⟩
  have hA1 := HA0.out.next (bw_alloc (Below.refl _ _) (.cells (i64s [r.index, r.time]).toArray 3))
  clear c0 c2 hN1
  have c1 := hA1.cell 1 _ rfl
  have c3 := hA1.cell 3 _ rfl
  have HA1 := Lib.hid hA1
  clear hA1
  generalize (w.alloc (.cells r.cells.toArray 61)).alloc (.cells (i64s [r.index, r.time]).toArray 3) = W1 at *
  rw [show [r.index, r.time].all numOk = (numOk r.index && numOk r.time) by simp]
  cases hno : (numOk r.index && numOk r.time)
  · have hgf : g = false := by rw [HG.out, RC.good, hno]; rfl
    subst hgf
    clear hno
    go_wp2_with fail
    go_ret
    exact ⟨rfl, HA1.out.1⟩
  · by_cases h1 : r.kind = 1
    · have hd1 : (r.kind == 1) = true := by simpa using h1
      by_cases h3 : r.body.size ≤ 656
      · have hd3 : decide ((r.body.size : Int) ≤ 656) = true := decide_eq_true (by omega)
        have hgf : g = true := by rw [HG.out, RC.good, hno, decide_eq_true h1, decide_eq_true h3]; rfl
        subst hgf
        clear hno h1
        go_wp2_with fail
        go_ret
        exact ⟨rfl, HA1.out.1⟩
      · have hd3 : decide ((r.body.size : Int) ≤ 656) = false := decide_eq_false (by omega)
        have hgf : g = false := by rw [HG.out, RC.good, hno, decide_eq_false h3, Bool.and_false]
        subst hgf
        clear hno h1
        go_wp2_with fail
        go_ret
        exact ⟨rfl, HA1.out.1⟩
    · have hd1 : (r.kind == 1) = false := by simpa using h1
      by_cases h2 : r.kind = 2
      · have hd2 : (r.kind == 2) = true := by simpa using h2
        by_cases h3 : r.body.size ≤ 656
        · have hd3 : decide ((r.body.size : Int) ≤ 656) = true := decide_eq_true (by omega)
          have hgf : g = true := by rw [HG.out, RC.good, hno, decide_eq_true h2, decide_eq_true h3]; simp
          subst hgf
          clear hno h1 h2
          go_wp2_with fail
          go_ret
          exact ⟨rfl, HA1.out.1⟩
        · have hd3 : decide ((r.body.size : Int) ≤ 656) = false := decide_eq_false (by omega)
          have hgf : g = false := by rw [HG.out, RC.good, hno, decide_eq_false h3, Bool.and_false]
          subst hgf
          clear hno h1 h2
          go_wp2_with fail
          go_ret
          exact ⟨rfl, HA1.out.1⟩
      · have hd2 : (r.kind == 2) = false := by simpa using h2
        have hgf : g = false := by rw [HG.out, RC.good, decide_eq_false h1, decide_eq_false h2]; simp
        subst hgf
        clear hno h1 h2
        go_wp2_with fail
        go_ret
        exact ⟨rfl, HA1.out.1⟩
open Go.RowKit
set_option maxHeartbeats 2000000
set_option maxRecDepth 4000
structure LkAt (w W : World) (r : RC) : Prop where
  rc : RcAt w W r
  z : W.heap[w.heap.size + 1]? = some (.cells zl32.toArray 23 (0, 0))
theorem LkAt.next {w W W' : World} {r : RC} (h : LkAt w W r) (hb : Below W.heap.size W W') : LkAt w W' r := ⟨h.rc.next hb, (hb.block _ (block_lt h.z)).trans h.z⟩
theorem LkAt.grown {w W W' : World} {r : RC} {row : Option Nat} (h : LkAt w W r) (hg : W.grownBy W' row) (hr : ∀ k, row = some k → w.heap.size + 1 < k) : LkAt w W' r :=
  ⟨h.rc.grown hg (fun k hk => by have := hr k hk; omega), (hg.block _ (block_lt h.z) (fun e => by have := hr _ e.symm; omega)).trans h.z⟩
theorem RC.good_is {r : RC} (h : r.good = true) : (0 ≤ r.index ∧ r.index ≤ 1099511627776) ∧ (0 ≤ r.time ∧ r.time ≤ 1099511627776) ∧ (r.kind = 1 ∨ r.kind = 2) ∧ r.body.size ≤ 656 := by
  simp only [RC.good, numOk, Bool.and_eq_true, Bool.or_eq_true, decide_eq_true_eq] at h
  exact ⟨h.1.1.1, h.1.1.2, h.1.2, h.2⟩
def RC.nums (r : RC) : List Nat := [r.index.toNat, r.kind.toNat, r.time.toNat]
theorem RC.ints_nums {r : RC} (h : r.good = true) : ints r.nums = [.int .i64 r.index, .int .i64 r.kind, .int .i64 r.time] := by
  have h2 := RC.good_is h
  simp only [ints, RC.nums, List.map_cons, List.map_nil, Int.toNat_of_nonneg (show 0 ≤ r.index by omega), Int.toNat_of_nonneg (show 0 ≤ r.kind by omega), Int.toNat_of_nonneg (show 0 ≤ r.time by omega)]
theorem RC.nums_le {r : RC} (h : r.good = true) : ∀ x ∈ r.nums, x ≤ 1099511627776 := by
  have h2 := RC.good_is h
  intro x hx
  simp only [RC.nums, List.mem_cons, List.not_mem_nil, or_false] at hx
  omega
def RC.parts (r : RC) : List ByteArray := numSs r.nums ++ [r.body]
theorem RC.parts_tot {r : RC} (h : r.good = true) : tot r.parts ≤ 700 := by
  have h1 := numSs_tot r.nums (RC.nums_le h)
  have h2 := RC.good_is h
  rw [RC.parts, tot_append]
  simp only [RC.nums, List.length_cons, List.length_nil] at h1
  have h3 : tot [r.body] = r.body.size := by simp [tot]
  simp only [RC.nums]
  omega
theorem RC.laid_size {r : RC} (h : r.good = true) : r.laid.length ≤ 800 := by
  have h1 := encList_length (ls := r.parts) (show 4 ≤ 1024 by decide) (Nat.le_trans (RC.parts_tot h) (by decide))
  have h2 := RC.parts_tot h
  have h3 : r.parts.length = 4 := rfl
  have h4 : r.laid = encList r.parts := rfl
  rw [h4]
  omega
theorem RC.link_length (r : RC) : r.link.length = 32 := sha_length _
theorem rowat {w : World} {b : Nat} {cs : List Value} {t : TypeId} {fr : Nat × Nat} (h : w.heap[b]? = some (.cells cs.toArray t fr)) : ∀ j u, cs[j]? = some u → w.cell? ((⟨b, 0, none⟩ : Addr).add j) = some u := fun j u hj => by
  have hadd : (⟨b, 0, none⟩ : Addr).add j = ⟨b, j, none⟩ := by unfold Addr.add; split <;> simp_all
  rw [hadd, cell_of_row w b j _ _ _ h, List.getElem?_toArray]
  exact hj
theorem keep_row {W W' : World} (hb : Below W.heap.size W W') {b : Nat} {o : Obj} (h : W.heap[b]? = some o) : W'.heap[b]? = some o := (hb.block b (block_lt h)).trans h
theorem own_above {w : World} {base n size m B : Nat} {e : TypeId} {v : Value} {xs : List Value} (h : w.ownsRow base e size v n xs) (h1 : m < B) (h2 : B ≤ base) : ∀ k, v.ownBlock = some k → m < k := fun k hk => by
  have := own_blk h k hk
  omega
theorem rd_parts {w : World} {r : RC} {base : Nat} {v : Value} {k : Nat} (h : w.ownsRow base 9 1 v (3 + 1) (strs (numSs r.nums) ++ strs [r.body])) (h0 : k < w.heap.size) : RdStrs w v r.parts :=
  RdStrs.of_own (by rw [← strs_app] at h; exact h) (show 4 ≤ _ by decide) (Nat.lt_of_le_of_lt (Nat.zero_le _) h0)
theorem link_any (r : RC) (w : World) (hr : r.wf) (hg : r.good = true) (hR : RoundsAt w) :
    Calls Tryd.prog 110 #[.agg r.cells.toArray] w fun e w' => e = .returned (.agg (u8s r.link).toArray) ∧ Below w.heap.size w w' := by
  have HRW := Lib.hid hr
  have HIN := Lib.hid (RC.ints_nums hg)
  have HNL := Lib.hid (mem_get (RC.nums_le hg))
  have HPT := Lib.hid (RC.parts_tot hg)
  have HLS := Lib.hid (RC.laid_size hg)
  have HR := Lib.hid hR
  have hT0 : LkAt w ((w.alloc (.cells r.cells.toArray 61)).alloc (.cells zl32.toArray 23)) r := ⟨(RcAt.start w r).next (bw_alloc (Below.refl _ _) _), heap_alloc2_new w _ _⟩
  have KEEP : Hid (∀ W', LkAt w W' r → (LkAt w W' r ∧ W'.cell? ⟨w.heap.size, 0, none⟩ = some (.int .i64 r.index) ∧ W'.cell? ⟨w.heap.size, 1, none⟩ = some (.int .i64 r.kind) ∧ W'.cell? ⟨w.heap.size, 2, none⟩ = some (.int .i64 r.time) ∧ W'.cell? ⟨w.heap.size, 3, none⟩ = some (.string r.body))) := show ∀ W', _ from fun W' h => ⟨h, h.rc.cell 0 _ rfl, h.rc.cell 1 _ rfl, h.rc.cell 2 _ rfl, h.rc.cell 3 _ rfl⟩
  clear hr hg hR
  go_enter Tryd.func110, Tryd.ntmps110
  go_wp2_with fail
  generalize hW0 : (w.alloc (.cells r.cells.toArray 61)).alloc (.cells zl32.toArray 23) = W0 at *
  clear hW0
  have LAYR := fun bn W (h : W.heap[bn]? = some (.cells #[.int .i64 r.index, .int .i64 r.kind, .int .i64 r.time] 3 (0, 0))) => (show Calls Tryd.prog 113 #[.slice (some ⟨bn, 0, none⟩) 3 3] W fun e w' => (∃ v, e = .returned v ∧ w'.ownsRow W.heap.size 9 1 v 3 (strs (numSs r.nums))) ∧ Below W.heap.size W w' from lay_any r.nums W bn HNL.out (show 3 ≤ 16 by decide) (by rw [HIN.out]; exact h))
  have hs0 := block_lt hT0.z
  have hs1 : ∀ X, (W0.alloc X).heap.size = W0.heap.size + 1 := fun X => by simp
  have hs2 : ∀ X Y, ((W0.alloc X).alloc Y).heap.size = W0.heap.size + 2 := fun X Y => by simp
  have hk1 : ∀ X, LkAt w (W0.alloc X) r := fun X => hT0.next (bw_alloc (Below.refl _ _) _)
  have hk2 : ∀ X Y, LkAt w ((W0.alloc X).alloc Y) r := fun X Y => hT0.next (bw_alloc (bw_alloc (Below.refl _ _) _) _)
  go_region_held3 (fun W' => LkAt w W' r ∧ W'.cell? ⟨w.heap.size, 0, none⟩ = some (.int .i64 r.index) ∧ W'.cell? ⟨w.heap.size, 1, none⟩ = some (.int .i64 r.kind) ∧ W'.cell? ⟨w.heap.size, 2, none⟩ = some (.int .i64 r.time) ∧ W'.cell? ⟨w.heap.size, 3, none⟩ = some (.string r.body))
    (first | assumption | exact KEEP.out _ hT0 | exact KEEP.out _ (hT0.next (Below.refl _ _).drew) | exact KEEP.out _ (hk1 _) | exact KEEP.out _ ((hk1 _).next (Below.refl _ _).drew) | exact KEEP.out _ (hk2 _ _) | exact KEEP.out _ ((hk2 _ _).next (Below.refl _ _).drew) | exact KEEP.out _ hTN | exact KEEP.out _ (hTN.next (bw_alloc (Below.refl _ _) _)) | exact KEEP.out _ hTA | exact KEEP.out _ hTW | fail)
    (first
      | (go_at_call 113; refine (LAYR _ _ (by first | exact heap_alloc_new W0 _ | exact heap_alloc2_new W0 _ _ | exact (Below.heap_alloc (W0.alloc _) _ _ (by simp)).trans (heap_alloc_new W0 _))).mono ?_; rintro e w' ⟨⟨v, rfl, hO⟩, hbN⟩; have hTN : LkAt w w' r := LkAt.next (And.left (by assumption)) hbN)
      | (go_at_call 112; refine (nwrite_ok _ r.parts _ hrd (show 4 ≤ 1024 by decide) (Nat.le_trans HPT.out (by decide))).mono ?_; rintro e w6 ⟨rfl, hb6⟩; have hTW := hTA.next hb6)
      | (rw [if_pos (by rfl)]; refine wp_append_own _ (.tmp 13) (.tmp 16) 80 rfl _ 9 _ (.string ByteArray.empty) 1 16 Tryd.underlying80 str_info rfl rfl rfl rfl (by decide) _ 3 _ (by rfl) (hO.alloc _) ⟨w'.heap.size, 0, none⟩ 1 1 (strs [r.body]) (by rfl) rfl news_at (strs_cells _) (by unfold maxLen; omega) (by omega) (Nat.le_trans hbN.size (by simp)) ?_; intro v5 w5 hO5 hg5 _; have hTA := (hTN.next (bw_alloc (Below.refl _ _) _)).grown hg5 (own_above hO hs0 (by simp <;> omega)); have hrd := rd_parts hO5 (block_lt hTA.z))
      | (rw [if_pos (by rfl)]; refine wp_append_own _ (.tmp 13) (.tmp 16) 80 rfl _ 9 _ (.string ByteArray.empty) 1 16 Tryd.underlying80 str_info rfl rfl rfl rfl (by decide) _ 3 _ (by rfl) hO ⟨W0.heap.size + 1, 0, none⟩ 1 1 (strs [r.body]) (by rfl) rfl (rowat (keep_row hbN (by exact heap_alloc2_new W0 _ _))) (strs_cells _) (by unfold maxLen; omega) (by omega) hbN.size ?_; intro v5 w5 hO5 hg5 _; have hTA := hTN.grown hg5 (own_above hO hs0 (by simp <;> omega)); have hrd := rd_parts hO5 (block_lt hTA.z))
      | (rw [if_pos (by rfl)]; refine wp_append_own _ (.tmp 13) (.tmp 16) 80 rfl _ 9 _ (.string ByteArray.empty) 1 16 Tryd.underlying80 str_info rfl rfl rfl rfl (by decide) _ 3 _ (by rfl) hO ⟨W0.heap.size, 0, none⟩ 1 1 (strs [r.body]) (by rfl) rfl (rowat (keep_row hbN (by exact (Below.heap_alloc (W0.alloc _) _ _ (by simp)).trans (heap_alloc_new W0 _)))) (strs_cells _) (by unfold maxLen; omega) (by omega) hbN.size ?_; intro v5 w5 hO5 hg5 _; have hTA := hTN.grown hg5 (own_above hO hs0 (by simp <;> omega)); have hrd := rd_parts hO5 (block_lt hTA.z))
      )
  all_goals
    have hg6 := hTW.rc.2
    have hz6 := hTW.z
    have HT6 := Lib.hid hTW
    clear hTW hTA hTN hb6 hrd hO hO5 hg5 hbN LAYR KEEP hs0 hs1 hs2 hk1 hk2 hT0
    go_wp2_with (with_reducible refine wpList_load_rows rfl 23 (.tmp 21) rfl w.heap.size 4 (u8s r.prev) r.cells 61 (0, 0) _ rfl hg6 RC.at_prev Tryd.underlying23 rfl (hash_info HRW.out.prev) ?_)
    refine (chain_any r.prev (bstr (encList r.parts)) _ HRW.out.prev (by rw [bstr_size]; exact Nat.le_trans HLS.out (by decide)) (HR.out.below HT6.out.rc.1 HR.out.1)).mono ?_
    rintro e w7 ⟨rfl, hb7⟩
    rw [show sha (r.prev ++ (bstr (encList r.parts)).data.toList) = r.link from rfl]
    have hz7 := (hb7.block _ (block_lt hz6)).trans hz6
    have HB7 := Lib.hid (bw_call HT6.out.rc.1 hb7)
    clear hb7 hz6 hg6
    go_wp2_with ((with_reducible refine wpList_store_whole rfl 23 (.tmp 2) (.tmp 24) rfl (w.heap.size + 1) (u8s r.link) zl32 23 rfl rfl hz7 (by rw [u8s_length, RC.link_length, zl32_length]) (hash_info r.link_length) (u8s_one _) ?_); intro w8 hU8)
    exact post_cell 2 23 rfl (w.heap.size + 1) _ (u8s r.link) _ _ hU8.out.at_ Tryd.underlying23 rfl (hash_info r.link_length) rfl rfl ⟨rfl, hU8.out.below HB7.out (by omega)⟩
theorem hash_cells {r : RC} (h : r.wf) {l : List UInt8} (hl : l.length = 32) : splice r.cells 36 (u8s l) = ({ r with hash := l } : RC).cells := by
  have h2 : (u8s r.prev).length = 32 := by rw [u8s_length]; exact h.prev
  have h3 : (u8s r.hash).length = 32 := by rw [u8s_length]; exact h.hash
  have h4 : (u8s l).length = 32 := by rw [u8s_length]; exact hl
  unfold splice
  rw [List.drop_eq_nil_of_le (by rw [RC.cells_length h.prev h.hash, h4]; decide), List.append_nil]
  show List.take 36 r.cells ++ _ = [Value.int .i64 r.index, .int .i64 r.kind, .int .i64 r.time, .string r.body] ++ (u8s r.prev ++ u8s l)
  rw [RC.cells, ← List.append_assoc, List.take_left' (by simp [h2]), List.append_assoc]
/-- the receipt behind another one, or what is wrong -/
def linkRes (prev : List UInt8) (index kind time : Int) (body : ByteArray) : RC := if (RC.mk index kind time body prev z32).good = true then linkOf prev index kind time body else RC.zero
def linkErr (prev : List UInt8) (index kind time : Int) (body : ByteArray) : Int := if (RC.mk index kind time body prev z32).good = true then 0 else 2
theorem linkOf_wf {prev : List UInt8} {index kind time : Int} {body : ByteArray} (h : (RC.mk index kind time body prev z32).wf) : (linkOf prev index kind time body).wf := ⟨h.index, h.kind, h.time, h.body, h.prev, RC.link_length _⟩
theorem linkRes_wf {prev : List UInt8} {index kind time : Int} {body : ByteArray} (h : (RC.mk index kind time body prev z32).wf) : (linkRes prev index kind time body).wf := by
  unfold linkRes
  split
  · exact linkOf_wf h
  · exact RC.zero_wf
theorem zlRc_info : (Tryd.prog.info? 61).map (·.size) = some zlRc.length := by kernel_rfl
theorem zlRc_one : ∀ v ∈ zlRc, v.oneCell' = true := by decide
theorem nlink_any (prev : List UInt8) (index kind time : Int) (body : ByteArray) (w : World) (hr : (RC.mk index kind time body prev z32).wf) (hR : RoundsAt w) :
    Calls Tryd.prog 104 #[.agg (u8s prev).toArray, .int .i64 index, .int .i64 kind, .int .i64 time, .string body] w fun e w' => e = .returned (.tuple #[.agg (linkRes prev index kind time body).cells.toArray, .int .i64 (linkErr prev index kind time body)]) ∧ Below w.heap.size w w' := by
  have HR := Lib.hid hR
  have HW := Lib.hid hr
  obtain ⟨r, hrr⟩ : ∃ r, r = RC.mk index kind time body prev z32 := ⟨_, rfl⟩
  rw [← hrr] at HW
  have HL : Hid (r.cells.length = zlRc.length) := show _ = _ from rc_len HW.out
  have HRR := Lib.hid hrr
  have hbd : ∀ w, (Instr.build 61 #[(0, .int .i64 index), (1, .int .i64 kind), (2, .int .i64 time), (3, .string body), (4, .agg (u8s prev).toArray)]).run Tryd.prog w = .ok (.agg r.cells.toArray) w := fun w => by rw [hrr]; exact rc_build index kind time body hr.prev w
  have hpl : Hid (prev.length = 32) := show _ = _ from hr.prev
  have hp0 : ((w.alloc (.cells (u8s prev).toArray 23)).alloc (.cells Tryd.zeroCells61 61)).heap[w.heap.size]? = some (.cells (u8s prev).toArray 23 (0, 0)) := (Below.heap_alloc _ _ _ (by simp)).trans (heap_alloc_new w _)
  have hz1 : ((w.alloc (.cells (u8s prev).toArray 23)).alloc (.cells Tryd.zeroCells61 61)).heap[w.heap.size + 1]? = some (.cells zlRc.toArray 61 (0, 0)) := heap_alloc2_new w _ _
  have HB0 := Lib.hid (bw_alloc (bw_alloc (Below.refl w.heap.size w) (.cells (u8s prev).toArray 23)) (.cells Tryd.zeroCells61 61))
  have hs2 : ((w.alloc (.cells (u8s prev).toArray 23)).alloc (.cells Tryd.zeroCells61 61)).heap.size = w.heap.size + 1 + 1 := by simp
  have hz2 : (((w.alloc (.cells (u8s prev).toArray 23)).alloc (.cells Tryd.zeroCells61 61)).alloc (.cells Tryd.zeroCells61 61)).heap[w.heap.size + 1 + 1]? = some (.cells zlRc.toArray 61 (0, 0)) := by rw [← hs2]; exact heap_alloc_new _ _
  have hz1a := (Below.heap_alloc _ (.cells Tryd.zeroCells61 61) _ (block_lt hz1)).trans hz1
  have HB0a := Lib.hid (bw_alloc HB0.out (.cells Tryd.zeroCells61 61))
  clear hR hr hrr hs2 hz1 HB0
  go_enter Tryd.func104, Tryd.ntmps104
  go_wp2_with (first
    | (with_reducible refine wpList_load_rows rfl 23 (.tmp 5) rfl w.heap.size 0 (u8s prev) (u8s prev) 23 (0, 0) _ rfl hp0 id_at Tryd.underlying23 rfl (hash_info hpl.out) ?_)
    | (with_reducible refine wpList_build rfl 61 [(0, .tmp 13), (1, .tmp 14), (2, .tmp 15), (3, .tmp 16), (4, .tmp 17)] rfl [(0, .int .i64 index), (1, .int .i64 kind), (2, .int .i64 time), (3, .string body), (4, .agg (u8s prev).toArray)] (.agg r.cells.toArray) rfl (hbd _) ?_)
    | ((with_reducible refine wpList_store_whole rfl 61 (.tmp 12) (.tmp 18) rfl (w.heap.size + 1 + 1) r.cells zlRc 61 rfl rfl hz2 HL.out (rc_info HW.out) (rc_one _) ?_); intro w2 hU2; have hT2 := hU2.out.at_; have hO2 := (hU2.out.other _ (by omega)).trans hz1a; have HB2 := Lib.hid (hU2.out.below HB0a.out (by omega)); clear hz2 hz1a hp0 hbd)
    | (with_reducible refine wpList_load_rows rfl 61 (.tmp 12) rfl (w.heap.size + 1 + 1) 0 r.cells r.cells 61 (0, 0) _ rfl hT2 id_at Tryd.underlying61 rfl (rc_info HW.out) ?_))
  refine (receipt_any r _ HW.out).mono ?_
  rintro e w3 ⟨rfl, hb3⟩
  have hT3 := (hb3.block _ (block_lt hT2)).trans hT2
  have hO3 := (hb3.block _ (block_lt hO2)).trans hO2
  have HB3 := Lib.hid (bw_call HB2.out hb3)
  clear hb3 hT2 hO2
  cases hg : r.good
  · have HG : Hid (linkRes prev index kind time body = RC.zero ∧ linkErr prev index kind time body = 2) := show _ ∧ _ by
      unfold linkRes linkErr
      rw [← HRR.out, hg]
      exact ⟨rfl, rfl⟩
    clear hg
    go_wp2_with (first
      | (with_reducible refine wpList_build rfl 61 [] rfl [] (.agg zlRc.toArray) rfl (rc_build0 _) ?_)
      | ((with_reducible refine wpList_store_whole rfl 61 (.tmp 10) (.tmp 22) rfl (w.heap.size + 1) zlRc zlRc 61 rfl rfl hO3 rfl zlRc_info zlRc_one ?_); intro w4 hU4))
    exact post_cell_tmp 10 11 61 rfl (w.heap.size + 1) _ zlRc _ _ hU4.out.at_ Tryd.underlying61 rfl zlRc_info (.int .i64 2) rfl rfl rfl ⟨by rw [HG.out.1, HG.out.2]; rfl, hU4.out.below HB3.out (by omega)⟩
  · have HG : Hid (linkRes prev index kind time body = { r with hash := r.link } ∧ linkErr prev index kind time body = 0) := show _ ∧ _ by
      unfold linkRes linkErr
      rw [← HRR.out, hg, HRR.out]
      exact ⟨rfl, rfl⟩
    obtain ⟨q, hq⟩ : ∃ q : RC, q = { r with hash := r.link } := ⟨_, rfl⟩
    have HWQ : Hid q.wf := show _ from by rw [hq]; exact ⟨HW.out.index, HW.out.kind, HW.out.time, HW.out.body, HW.out.prev, RC.link_length _⟩
    have HSP : Hid (splice r.cells 36 (u8s r.link) = q.cells) := show _ = _ by rw [hq]; exact hash_cells HW.out (RC.link_length _)
    have HQL : Hid (q.cells.length = zlRc.length) := show _ = _ from rc_len HWQ.out
    rw [← hq] at HG
    clear hq
    go_wp2_with (with_reducible refine wpList_load_rows rfl 61 (.tmp 12) rfl (w.heap.size + 1 + 1) 0 r.cells r.cells 61 (0, 0) _ rfl hT3 id_at Tryd.underlying61 rfl (rc_info HW.out) ?_)
    refine (link_any r _ HW.out hg (HR.out.below HB3.out HR.out.1)).mono ?_
    rintro e w4 ⟨rfl, hb4⟩
    have hT4 := (hb4.block _ (block_lt hT3)).trans hT3
    have hO4 := (hb4.block _ (block_lt hO3)).trans hO3
    have HB4 := Lib.hid (bw_call HB3.out hb4)
    clear hb4 hT3 hO3 hg
    go_wp2_with (first
      | ((with_reducible refine wpList_store_rows rfl 23 (.tmp 25) (.tmp 24) rfl (w.heap.size + 1 + 1) 36 (u8s r.link) r.cells 61 rfl rfl hT4 (by rw [rc_len HW.out, u8s_length, RC.link_length]; decide) (hash_info r.link_length) (u8s_one _) ?_); intro w5 hU5; have hT5 := hU5.out.at_; rw [HSP.out] at hT5; have hO5 := (hU5.out.other _ (by omega)).trans hO4; have HB5 := Lib.hid (hU5.out.below HB4.out (by omega)); clear hT4 hO4)
      | (with_reducible refine wpList_load_rows rfl 61 (.tmp 12) rfl (w.heap.size + 1 + 1) 0 q.cells q.cells 61 (0, 0) _ rfl hT5 id_at Tryd.underlying61 rfl (rc_info HWQ.out) ?_)
      | ((with_reducible refine wpList_store_whole rfl 61 (.tmp 10) (.tmp 26) rfl (w.heap.size + 1) q.cells zlRc 61 rfl rfl hO5 HQL.out (rc_info HWQ.out) (rc_one _) ?_); intro w6 hU6))
    exact post_cell_tmp 10 11 61 rfl (w.heap.size + 1) _ q.cells _ _ hU6.out.at_ Tryd.underlying61 rfl (rc_info HWQ.out) (.int .i64 0) rfl rfl rfl ⟨by rw [HG.out.1, HG.out.2], hU6.out.below HB5.out (by omega)⟩
end Go.Proofs.YtckfdmkjeocadaaDoor
