/- A receipt in plain Lean; receipts compared. -/
import Derived.Test.YtckfdmkjeocadaaDoorLaw04
namespace Go.Proofs.YtckfdmkjeocadaaDoor
open Go.RowKit
set_option maxHeartbeats 1000000
set_option maxRecDepth 4000
structure RC where
  index : Int
  kind : Int
  time : Int
  body : ByteArray
  prev : List UInt8
  hash : List UInt8
instance : DecidableEq RC := fun a b => by
  cases a; cases b
  rw [RC.mk.injEq]
  infer_instance
structure RC.wf (r : RC) : Prop where
  index : i64ok r.index
  kind : i64ok r.kind
  time : i64ok r.time
  body : r.body.size ≤ 140737488351232
  prev : r.prev.length = 32
  hash : r.hash.length = 32
def RC.cells (r : RC) : List Value := [.int .i64 r.index, .int .i64 r.kind, .int .i64 r.time, .string r.body] ++ (u8s r.prev ++ u8s r.hash)
theorem RC.cells_length {r : RC} (h1 : r.prev.length = 32) (h2 : r.hash.length = 32) : r.cells.length = 68 := by simp [RC.cells, u8s_length, h1, h2]
theorem RC.at_prev {r : RC} : ∀ j v, (u8s r.prev)[j]? = some v → r.cells[4 + j]? = some v := by
  intro j v h
  have hlt : j < (u8s r.prev).length := by
    rcases Nat.lt_or_ge j (u8s r.prev).length with h1 | h1
    · exact h1
    · rw [List.getElem?_eq_none h1] at h; cases h
  rw [RC.cells, List.getElem?_append_right (by simp), List.getElem?_append_left (by simp; omega)]
  simpa using h
theorem RC.at_hash {r : RC} (h1 : r.prev.length = 32) : ∀ j v, (u8s r.hash)[j]? = some v → r.cells[36 + j]? = some v := by
  intro j v h
  rw [RC.cells, List.getElem?_append_right (by simp; omega), List.getElem?_append_right (by simp [u8s_length, h1]; omega)]
  simp only [u8s_length, h1, List.length_cons, List.length_nil]
  rw [show 36 + j - (0 + 1 + 1 + 1 + 1) - 32 = j by omega]
  exact h
theorem RC.prev_part {r : RC} (h : r.wf) : (r.cells.drop 4).take 32 = u8s r.prev := by
  have h2 : (u8s r.prev).length = 32 := by rw [u8s_length]; exact h.prev
  simp [RC.cells, h2]
theorem RC.hash_part {r : RC} (h : r.wf) : (r.cells.drop 36).take 32 = u8s r.hash := by
  have h2 : (u8s r.prev).length = 32 := by rw [u8s_length]; exact h.prev
  have h3 : (u8s r.hash).length = 32 := by rw [u8s_length]; exact h.hash
  simp only [RC.cells]
  rw [List.drop_append, List.drop_eq_nil_of_le (by simp), List.nil_append, List.drop_append, List.drop_eq_nil_of_le (by simp [h2]), List.nil_append, List.take_of_length_le]
  · simp [h2]
  · simp [h2, h3]
def RC.zero : RC := ⟨0, 0, 0, ByteArray.empty, z32, z32⟩
abbrev zlRc : List Value := [.int .i64 0, .int .i64 0, .int .i64 0, .string ByteArray.empty, .int .u8 0, .int .u8 0, .int .u8 0, .int .u8 0, .int .u8 0, .int .u8 0, .int .u8 0, .int .u8 0, .int .u8 0, .int .u8 0, .int .u8 0, .int .u8 0, .int .u8 0, .int .u8 0, .int .u8 0, .int .u8 0, .int .u8 0, .int .u8 0, .int .u8 0, .int .u8 0, .int .u8 0, .int .u8 0, .int .u8 0, .int .u8 0, .int .u8 0, .int .u8 0, .int .u8 0, .int .u8 0, .int .u8 0, .int .u8 0, .int .u8 0, .int .u8 0, .int .u8 0, .int .u8 0, .int .u8 0, .int .u8 0, .int .u8 0, .int .u8 0, .int .u8 0, .int .u8 0, .int .u8 0, .int .u8 0, .int .u8 0, .int .u8 0, .int .u8 0, .int .u8 0, .int .u8 0, .int .u8 0, .int .u8 0, .int .u8 0, .int .u8 0, .int .u8 0, .int .u8 0, .int .u8 0, .int .u8 0, .int .u8 0, .int .u8 0, .int .u8 0, .int .u8 0, .int .u8 0, .int .u8 0, .int .u8 0, .int .u8 0, .int .u8 0]
theorem zlRc_eq : zlRc = RC.zero.cells := rfl
theorem RC.zero_wf : RC.zero.wf := ⟨i64_zero, i64_zero, i64_zero, by decide, rfl, rfl⟩
theorem rc_info {r : RC} (h : r.wf) : (Tryd.prog.info? 61).map (·.size) = some r.cells.length := by rw [RC.cells_length h.prev h.hash]; kernel_rfl
theorem rc_len {r : RC} (h : r.wf) : r.cells.length = zlRc.length := RC.cells_length h.prev h.hash
theorem rc_one (r : RC) : ∀ v ∈ r.cells, v.oneCell' = true := by
  intro v hv
  unfold RC.cells at hv
  rcases List.mem_append.1 hv with hv | hv
  · simp only [List.mem_cons, List.not_mem_nil, or_false] at hv
    rcases hv with rfl | rfl | rfl | rfl <;> rfl
  · rcases List.mem_append.1 hv with hv | hv
    · exact u8s_one _ v hv
    · exact u8s_one _ v hv
theorem rc_zero (w : World) : (zeroValue 61).run Tryd.prog w = .ok (.agg zlRc.toArray) w := by kernel_rfl
theorem rc_build0 (w : World) : (Instr.build 61 #[]).run Tryd.prog w = .ok (.agg zlRc.toArray) w :=
  run_build_struct (parts := #[]) (places := #[(0, 1), (1, 1), (2, 1), (3, 1), (4, 32), (36, 32)]) w (rc_zero w) Tryd.underlying61 (by kernel_rfl) rfl
theorem rc_build (a b c : Int) (s : ByteArray) {h : List UInt8} (hl : h.length = 32) (w : World) :
    (Instr.build 61 #[(0, .int .i64 a), (1, .int .i64 b), (2, .int .i64 c), (3, .string s), (4, .agg (u8s h).toArray)]).run Tryd.prog w = .ok (.agg (RC.cells ⟨a, b, c, s, h, z32⟩).toArray) w := by
  refine run_build_struct (places := #[(0, 1), (1, 1), (2, 1), (3, 1), (4, 32), (36, 32)]) w (rc_zero w) Tryd.underlying61 (by kernel_rfl) ?_
  rw [fill_cons (off := 0) (size := 1) rfl rfl (by decide), fill_cons (off := 1) (size := 1) rfl rfl (by simp [splice, Value.cells]), fill_cons (off := 2) (size := 1) rfl rfl (by simp [splice, Value.cells]), fill_cons (off := 3) (size := 1) rfl rfl (by simp [splice, Value.cells]), fill_cons (off := 4) (size := 32) rfl (by simp [Value.cells, u8s_length, hl]) (by simp [splice, Value.cells])]
  rw [Instr.fill]
  congr 1
  have hz : u8s z32 = zl32 := zl32_eq.symm
  simp only [Value.cells, splice, u8s_length, hl, RC.cells, zlRc, hz, zl32]
  simp
theorem rc_eq {t u : RC} (ht : t.wf) (hu : u.wf) (w : World) : (Op.equalIn 10000 61 (.agg t.cells.toArray) (.agg u.cells.toArray)).run Tryd.prog w = .ok (decide (t = u)) w := by
  rw [run_equalIn_struct w 9999 _ _ _ (by simp only [Program.fieldsOf, Tryd.underlying61]) (by kernel_rfl)]
  simp only [Program.fieldsOf, Tryd.underlying61, Op.eqFields]
  rw [if_pos (by decide), if_pos (by decide), if_pos (by decide), if_pos (by decide), if_pos (by decide), if_pos (by decide)]
  have p0 := part_int Tryd.underlying3 t.cells 0 (.int .i64 t.index) rfl
  have p1 := part_int Tryd.underlying3 t.cells 1 (.int .i64 t.kind) rfl
  have p2 := part_int Tryd.underlying3 t.cells 2 (.int .i64 t.time) rfl
  have p3 := part_str t.cells 3 (.string t.body) rfl
  have p4 := part_hash t.cells 4 t.prev (RC.prev_part ht)
  have p5 := part_hash t.cells 36 t.hash (RC.hash_part ht)
  have q0 := part_int Tryd.underlying3 u.cells 0 (.int .i64 u.index) rfl
  have q1 := part_int Tryd.underlying3 u.cells 1 (.int .i64 u.kind) rfl
  have q2 := part_int Tryd.underlying3 u.cells 2 (.int .i64 u.time) rfl
  have q3 := part_str u.cells 3 (.string u.body) rfl
  have q4 := part_hash u.cells 4 u.prev (RC.prev_part hu)
  have q5 := part_hash u.cells 36 u.hash (RC.hash_part hu)
  have e3 := fun w => eq_hash2 ht.prev hu.prev w
  have e4 := fun w => eq_hash2 ht.hash hu.hash w
  have i1 : ∀ (a b : Int) (w : World), (Op.equalIn 9999 3 (.int .i64 a) (.int .i64 b)).run Tryd.prog w = .ok (a == b) w := fun a b w => run_equalIn_int w 9998 _ _ _ a b Tryd.underlying3
  have i3 : ∀ (a b : ByteArray) (w : World), (Op.equalIn 9999 9 (.string a) (.string b)).run Tryd.prog w = .ok (decide (a = b)) w := fun a b w => by rw [run_equalIn_string w 9998 _ a b Tryd.underlying9, bytes_beq]
  simp only [Sem.run_bind, Sem.run_ite, Sem.run_pure, Result.andThen_ok, e3, e4, i1, i3, p0, p1, p2, p3, p4, p5, q0, q1, q2, q3, q4, q5]
  by_cases h0 : t.index = u.index
  case neg => rw [decide_eq_false (fun h : t = u => h0 (congrArg RC.index h))]; simp [h0]
  case pos =>
    by_cases h1 : t.kind = u.kind
    case neg => rw [decide_eq_false (fun h : t = u => h1 (congrArg RC.kind h))]; simp [h1]
    case pos =>
      by_cases h2 : t.time = u.time
      case neg => rw [decide_eq_false (fun h : t = u => h2 (congrArg RC.time h))]; simp [h2]
      case pos =>
        by_cases h3 : t.body = u.body
        case neg => rw [decide_eq_false (fun h : t = u => h3 (congrArg RC.body h))]; simp [h3]
        case pos =>
          by_cases h4 : t.prev = u.prev
          case neg => rw [decide_eq_false (fun h : t = u => h4 (congrArg RC.prev h))]; simp [h4]
          case pos =>
            by_cases h5 : t.hash = u.hash
            case neg => rw [decide_eq_false (fun h : t = u => h5 (congrArg RC.hash h))]; simp [h5]
            case pos =>
              have h : t = u := by
                cases t; cases u; simp_all
              rw [decide_eq_true h]
              simp [h]
/-- what a receipt is hashed of -/
def RC.laid (r : RC) : List UInt8 := encList (numSs [r.index.toNat, r.kind.toNat, r.time.toNat] ++ [r.body])
def RC.link (r : RC) : List UInt8 := sha (r.prev ++ r.laid)
def RC.good (r : RC) : Bool := (numOk r.index && numOk r.time) && (decide (r.kind = 1) || decide (r.kind = 2)) && decide (r.body.size ≤ 656)
/-- the receipt behind another one -/
def linkOf (prev : List UInt8) (index kind time : Int) (body : ByteArray) : RC := { index := index, kind := kind, time := time, body := body, prev := prev, hash := (RC.mk index kind time body prev z32).link }
end Go.Proofs.YtckfdmkjeocadaaDoor
