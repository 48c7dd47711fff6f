/- Transactions compared; cavalcadelaw04.awake: what the call does. -/
import Derived.Test.YtckfdmkjeocadaaDoorSigned
import Derived.Test.YtckfdmkjeocadaaDoorTxBackPure
namespace Go.Proofs.YtckfdmkjeocadaaDoor
open Go.RowKit
set_option maxHeartbeats 1000000
set_option maxRecDepth 4000
instance : DecidableEq TX := fun a b => by
  cases a; cases b
  rw [TX.mk.injEq]
  infer_instance
theorem part_str (cs : List Value) (i : Nat) (v : Value) (hv : cs[i]? = some v) (w : World) : (part 9 cs.toArray i).run Tryd.prog w = .ok v w := by
  simp [part, isAgg, run_underlying Tryd.underlying9, hv]
theorem part_bool (cs : List Value) (i : Nat) (v : Value) (hv : cs[i]? = some v) (w : World) : (part 4 cs.toArray i).run Tryd.prog w = .ok v w := by
  simp [part, isAgg, run_underlying Tryd.underlying4, hv]
theorem bytes_beq (a b : ByteArray) : (a.toList == b.toList) = decide (a = b) := by
  by_cases h : a = b
  · subst h; simp
  · rw [decide_eq_false h, beq_eq_false_iff_ne]
    intro e
    rw [ByteArray.toList_eq, ByteArray.toList_eq] at e
    exact h (ByteArray.ext (Array.ext' e))
theorem by_part {t : TX} (h : t.wf) : (t.cells.drop 8).take 32 = u8s t.by_ := by
  have h2 : (u8s t.by_).length = 32 := by rw [u8s_length]; exact h.by_
  simp [TX.cells, h2]
theorem tag_part {t : TX} (h : t.wf) : (t.cells.drop 40).take 32 = u8s t.tag := by
  have h2 : (u8s t.by_).length = 32 := by rw [u8s_length]; exact h.by_
  have h3 : (u8s t.tag).length = 32 := by rw [u8s_length]; exact h.tag
  simp only [TX.cells]
  rw [List.drop_append, List.drop_eq_nil_of_le (by simp), List.nil_append, List.drop_append, List.drop_eq_nil_of_le (by simp [h2]), List.nil_append, List.take_of_length_le]
  · simp [h2]
  · simp [h2, h3]
theorem tx_eq {t u : TX} (ht : t.wf) (hu : u.wf) (w : World) : (Op.equalIn 10000 25 (.agg t.cells.toArray) (.agg u.cells.toArray)).run Tryd.prog w = .ok (decide (t = u)) w := by
  rw [run_equalIn_struct w 9999 _ _ _ (by simp only [Program.fieldsOf, Tryd.underlying25]) (by kernel_rfl)]
  simp only [Program.fieldsOf, Tryd.underlying25, Op.eqFields]
  rw [if_pos (by decide), if_pos (by decide), if_pos (by decide), if_pos (by decide), if_pos (by decide), if_pos (by decide), if_pos (by decide), if_pos (by decide), if_pos (by decide), if_pos (by decide)]
  have ptfrm := part_int Tryd.underlying3 t.cells 0 (.int .i64 t.frm) rfl
  have ptnonce := part_int Tryd.underlying3 t.cells 1 (.int .i64 t.nonce) rfl
  have ptfee := part_int Tryd.underlying3 t.cells 2 (.int .i64 t.fee) rfl
  have ptto := part_int Tryd.underlying3 t.cells 3 (.int .i64 t.to_) rfl
  have ptdata := part_str t.cells 4 (.string t.data) rfl
  have ptlane := part_bool t.cells 5 (.bool t.lane) rfl
  have ptround := part_int Tryd.underlying3 t.cells 6 (.int .i64 t.round) rfl
  have ptturn := part_int Tryd.underlying3 t.cells 7 (.int .i64 t.turn) rfl
  have ptby := part_hash t.cells 8 t.by_ (by_part ht)
  have pttag := part_hash t.cells 40 t.tag (tag_part ht)
  have pufrm := part_int Tryd.underlying3 u.cells 0 (.int .i64 u.frm) rfl
  have punonce := part_int Tryd.underlying3 u.cells 1 (.int .i64 u.nonce) rfl
  have pufee := part_int Tryd.underlying3 u.cells 2 (.int .i64 u.fee) rfl
  have puto := part_int Tryd.underlying3 u.cells 3 (.int .i64 u.to_) rfl
  have pudata := part_str u.cells 4 (.string u.data) rfl
  have pulane := part_bool u.cells 5 (.bool u.lane) rfl
  have puround := part_int Tryd.underlying3 u.cells 6 (.int .i64 u.round) rfl
  have puturn := part_int Tryd.underlying3 u.cells 7 (.int .i64 u.turn) rfl
  have puby := part_hash u.cells 8 u.by_ (by_part hu)
  have putag := part_hash u.cells 40 u.tag (tag_part hu)
  have e3 := fun w => eq_hash2 ht.by_ hu.by_ w
  have e4 := fun w => eq_hash2 ht.tag hu.tag w
  have i1 : ∀ (a b : Int) (w : World), (Op.equalIn 9999 3 (.int .i64 a) (.int .i64 b)).run Tryd.prog w = .ok (a == b) w := fun a b w => run_equalIn_int w 9998 _ _ _ a b Tryd.underlying3
  have i2 : ∀ (a b : Bool) (w : World), (Op.equalIn 9999 4 (.bool a) (.bool b)).run Tryd.prog w = .ok (a == b) w := fun a b w => run_equalIn_bool' w 9998 _ a b Tryd.underlying4
  have i3 : ∀ (a b : ByteArray) (w : World), (Op.equalIn 9999 9 (.string a) (.string b)).run Tryd.prog w = .ok (decide (a = b)) w := fun a b w => by rw [run_equalIn_string w 9998 _ a b Tryd.underlying9, bytes_beq]
  simp only [Sem.run_bind, Sem.run_ite, Sem.run_pure, Result.andThen_ok, e3, e4, i1, i2, i3, ptfrm, ptnonce, ptfee, ptto, ptdata, ptlane, ptround, ptturn, ptby, pttag, pufrm, punonce, pufee, puto, pudata, pulane, puround, puturn, puby, putag]
  by_cases hfrm : t.frm = u.frm
  case neg => rw [decide_eq_false (fun h : t = u => hfrm (congrArg TX.frm h))]; simp [hfrm]
  case pos =>
    by_cases hnonce : t.nonce = u.nonce
    case neg => rw [decide_eq_false (fun h : t = u => hnonce (congrArg TX.nonce h))]; simp [hnonce]
    case pos =>
      by_cases hfee : t.fee = u.fee
      case neg => rw [decide_eq_false (fun h : t = u => hfee (congrArg TX.fee h))]; simp [hfee]
      case pos =>
        by_cases hto_ : t.to_ = u.to_
        case neg => rw [decide_eq_false (fun h : t = u => hto_ (congrArg TX.to_ h))]; simp [hto_]
        case pos =>
          by_cases hdata : t.data = u.data
          case neg => rw [decide_eq_false (fun h : t = u => hdata (congrArg TX.data h))]; simp [hdata]
          case pos =>
            by_cases hlane : t.lane = u.lane
            case neg => rw [decide_eq_false (fun h : t = u => hlane (congrArg TX.lane h))]; simp [hlane]
            case pos =>
              by_cases hround : t.round = u.round
              case neg => rw [decide_eq_false (fun h : t = u => hround (congrArg TX.round h))]; simp [hround]
              case pos =>
                by_cases hturn : t.turn = u.turn
                case neg => rw [decide_eq_false (fun h : t = u => hturn (congrArg TX.turn h))]; simp [hturn]
                case pos =>
                  by_cases hby_ : t.by_ = u.by_
                  case neg => rw [decide_eq_false (fun h : t = u => hby_ (congrArg TX.by_ h))]; simp [hby_]
                  case pos =>
                    by_cases htag : t.tag = u.tag
                    case neg => rw [decide_eq_false (fun h : t = u => htag (congrArg TX.tag h))]; simp [htag]
                    case pos =>
                      have h : t = u := by
                        cases t; cases u; simp_all
                      rw [decide_eq_true h]
                      simp [h]
end Go.Proofs.YtckfdmkjeocadaaDoor
