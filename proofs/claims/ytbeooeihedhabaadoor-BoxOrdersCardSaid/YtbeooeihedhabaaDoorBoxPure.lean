/- Batches, their bytes, posts: plain Lean. -/
import Derived.Test.YtbeooeihedhabaaDoorRdBack
import Derived.Test.YtbeooeihedhabaaDoorRdAll
import Derived.Test.YtbeooeihedhabaaDoorCrC
import Derived.Test.YtbeooeihedhabaaDoorSeal
namespace Go.Proofs.YtbeooeihedhabaaDoor
open Go.RowKit
/-- a message of a batch -/
structure PT where
  del : Bool
  text : ByteArray
/-- a batch -/
structure BT where
  seq : Int
  first : Int
  before : Int
  parts : List PT
def BT.zero : BT := ⟨0, 0, 0, []⟩
theorem okN_iff {n : Int} : numOk n = true ↔ 0 ≤ n ∧ n ≤ 1099511627776 := by simp [numOk]
def BT.ok (b : BT) : Bool := numOk b.seq && numOk b.first && numOk b.before
def PT.txt (p : PT) : Option ByteArray :=
  if p.del = true then (if p.text.size = 0 then some (bstr [2]) else none) else if p.text.size ≤ 656 then some (bstr (1 :: p.text.data.toList)) else none
def txts : List PT → Option (List ByteArray)
  | [] => some []
  | p :: l => match p.txt with
    | none => none
    | some t => match txts l with
      | none => none
      | some ts => some (t :: ts)
def nums3 (b : BT) : List ByteArray := [numS b.seq.toNat, numS b.first.toNat, numS b.before.toNat]
def BT.lay (b : BT) (ts : List ByteArray) : List ByteArray := nums3 b ++ ts
/-- its bytes, where it is light; the error -/
def BT.wr (b : BT) : ByteArray × Int :=
  if b.ok = true then match txts b.parts with
    | some ts => (bstr (encList (b.lay ts)), 0)
    | none => (⟨#[]⟩, 2)
  else (⟨#[]⟩, 2)
def weigh (l : List PT) : Nat := (l.map fun p => p.text.size + 2).sum
theorem weigh_cons (p : PT) (l : List PT) : weigh (p :: l) = p.text.size + 2 + weigh l := by simp [weigh]
theorem weigh_len : ∀ l : List PT, 2 * l.length ≤ weigh l
  | [] => by simp [weigh]
  | p :: l => by have := weigh_len l; rw [weigh_cons, List.length_cons]; omega
theorem weigh_take (l : List PT) : ∀ k, weigh (l.take k) ≤ weigh l := by
  induction l with
  | nil => intro k; simp [weigh]
  | cons p l ih =>
    intro k
    cases k with
    | zero => simp [weigh]
    | succ k => rw [List.take_succ_cons, weigh_cons, weigh_cons]; have := ih k; omega
theorem txt_size {p : PT} {t : ByteArray} (h : p.txt = some t) : t.size ≤ p.text.size + 1 ∧ t.size ≤ 657 ∧ 1 ≤ t.size := by
  unfold PT.txt at h
  split at h
  · split at h
    · cases h; rw [bstr_size]; simp
    · cases h
  · split at h
    · cases h
      rw [bstr_size, List.length_cons]
      have : p.text.data.toList.length = p.text.size := rfl
      omega
    · cases h
theorem txts_len : ∀ {l : List PT} {ts : List ByteArray}, txts l = some ts → ts.length = l.length ∧ tot ts ≤ weigh l
  | [], ts, h => by cases h; exact ⟨rfl, by simp [tot, weigh]⟩
  | p :: l, ts, h => by
    unfold txts at h
    split at h
    · cases h
    · rename_i t ht
      split at h
      · cases h
      · rename_i us hu
        cases h
        obtain ⟨h1, h2⟩ := txts_len hu
        have h3 := txt_size ht
        refine ⟨by rw [List.length_cons, List.length_cons, h1], ?_⟩
        rw [weigh_cons]
        have : tot (t :: us) = t.size + tot us := by simp [tot]
        omega
theorem lay_small {b : BT} (hb : b.ok = true) {ts : List ByteArray} (h : txts b.parts = some ts) (hl : weigh b.parts ≤ 600) : (b.lay ts).length ≤ 1024 ∧ tot (b.lay ts) ≤ 627 := by
  obtain ⟨h1, h2⟩ := txts_len h
  have h3 := weigh_len b.parts
  simp only [BT.ok, Bool.and_eq_true] at hb
  obtain ⟨⟨k1, k2⟩, k3⟩ := hb
  rw [okN_iff] at k1 k2 k3
  have n1 := numS_size (n := b.seq.toNat) (by omega)
  have n2 := numS_size (n := b.first.toNat) (by omega)
  have n3 := numS_size (n := b.before.toNat) (by omega)
  constructor
  · simp only [BT.lay, nums3, List.length_append, List.length_cons, List.length_nil]; omega
  · have : tot (b.lay ts) = (numS b.seq.toNat).size + ((numS b.first.toNat).size + ((numS b.before.toNat).size + tot ts)) := by simp [tot, BT.lay, nums3]
    omega
theorem txts_snoc : ∀ {l : List PT} {ts : List ByteArray} {p : PT}, txts l = some ts → txts (l ++ [p]) = match p.txt with | none => none | some t => some (ts ++ [t])
  | [], ts, p, h => by
    cases h
    show txts [p] = _
    unfold txts
    cases p.txt <;> rfl
  | q :: l, ts, p, h => by
    unfold txts at h
    show txts (q :: (l ++ [p])) = _
    unfold txts
    split at h
    · cases h
    · rename_i t ht
      split at h
      · cases h
      · rename_i us hu
        cases h
        rw [txts_snoc hu]
        cases p.txt <;> rfl
theorem txts_none : ∀ {l r : List PT} {p : PT}, p.txt = none → txts (l ++ p :: r) = none
  | [], r, p, h => by
    show txts (p :: r) = none
    unfold txts
    rw [h]
  | q :: l, r, p, h => by
    show txts (q :: (l ++ p :: r)) = none
    unfold txts
    cases q.txt with
    | none => rfl
    | some t => dsimp only; rw [txts_none h]
theorem one_text (t : ByteArray) : (⟨#[1]⟩ : ByteArray) ++ t = bstr (1 :: t.data.toList) := bstr_append [1] t.data.toList
def PT.cells (p : PT) : List Value := [.bool p.del, .string p.text]
def rdPart (t : ByteArray) : Option PT :=
  if t = bstr [2] then some ⟨true, ⟨#[]⟩⟩
  else match t.data.toList with
    | 1 :: r => if r.length ≤ 656 then some ⟨false, bstr r⟩ else none
    | _ => none
def rdPs : List ByteArray → Option (List PT)
  | [] => some []
  | t :: l => match rdPart t with
    | none => none
    | some p => match rdPs l with
      | none => none
      | some ps => some (p :: ps)
/-- three numbers, a list's first texts -/
def rd3 (l : List ByteArray) : Option (Nat × Nat × Nat × List ByteArray) :=
  match l with
  | a :: b :: c :: r => match rdNum a with
    | .error _ => none
    | .ok x => match rdNum b with
      | .error _ => none
      | .ok y => match rdNum c with
        | .error _ => none
        | .ok z => some (x, y, z, r)
  | _ => none
def rdB (s : ByteArray) : Option BT :=
  match rdAll s with
  | .error _ => none
  | .ok l => match rd3 l with
    | none => none
    | some (x, y, z, r) => if numOk x = true ∧ numOk y = true ∧ numOk z = true ∧ r.length ≤ 512 then match rdPs r with
        | none => none
        | some ps => some ⟨x, y, z, ps⟩
      else none
theorem rdPart_txt {p : PT} {t : ByteArray} (h : p.txt = some t) : rdPart t = some p := by
  obtain ⟨d, x⟩ := p
  unfold PT.txt at h
  dsimp only at h
  split at h
  · rename_i hd
    split at h
    · rename_i hz
      cases h
      subst hd
      have : x = ⟨#[]⟩ := ByteArray.ext (Array.eq_empty_of_size_eq_zero hz)
      rw [this]
      rfl
    · cases h
  · rename_i hd
    split at h
    · rename_i hz
      cases h
      have hd' : d = false := by simpa using hd
      subst hd'
      unfold rdPart
      have hne : bstr (1 :: x.data.toList) ≠ bstr [2] := fun e => by
        have := bstr_inj e
        injection this with h1 _
        exact absurd h1 (by decide)
      rw [if_neg hne, bstr_toList]
      show (if x.data.toList.length ≤ 656 then some (PT.mk false (bstr x.data.toList)) else none) = _
      rw [if_pos (show x.data.toList.length ≤ 656 from hz), bstr_of]
    · cases h
theorem rdPs_txts : ∀ {l : List PT} {ts : List ByteArray}, txts l = some ts → rdPs ts = some l
  | [], ts, h => by cases h; rfl
  | p :: l, ts, h => by
    unfold txts at h
    split at h
    · cases h
    · rename_i t ht
      split at h
      · cases h
      · rename_i us hu
        cases h
        rw [rdPs, rdPart_txt ht]
        dsimp only
        rw [rdPs_txts hu]
/-- what was laid is read as it was -/
theorem rdB_wr {b : BT} (hl : weigh b.parts ≤ 600) (h : b.wr.2 = 0) : rdB b.wr.1 = some b := by
  unfold BT.wr at h ⊢
  split at h
  · rename_i hb
    rw [if_pos hb]
    cases ht : txts b.parts with
    | none => rw [ht] at h; cases h
    | some ts =>
      obtain ⟨h1, h2⟩ := lay_small hb ht hl
      obtain ⟨h3, _⟩ := txts_len ht
      have h4 := weigh_len b.parts
      have hb' := hb
      simp only [BT.ok, Bool.and_eq_true] at hb'
      obtain ⟨⟨k1, k2⟩, k3⟩ := hb'
      have j1 := okN_iff.1 k1
      have j2 := okN_iff.1 k2
      have j3 := okN_iff.1 k3
      dsimp only
      unfold rdB
      rw [rdAll_enc h1 (by omega)]
      dsimp only
      unfold rd3 BT.lay nums3
      simp only [List.cons_append, List.nil_append]
      rw [rdNum_enc (by omega), rdNum_enc (by omega), rdNum_enc (by omega)]
      dsimp only
      rw [Int.toNat_of_nonneg j1.1, Int.toNat_of_nonneg j2.1, Int.toNat_of_nonneg j3.1, if_pos ⟨k1, k2, k3, by omega⟩, rdPs_txts ht]
  · cases h
/-- a crate's post -/
def postOf (c : List UInt8) : ByteArray := bstr (encList [bstr c, bstr (tagOf 64 4 c)])
/-- what box.Write answers, of a light batch -/
def BT.post (b : BT) : ByteArray × Int := if b.wr.2 = 0 then (postOf (packL b.wr.1.data.toList), 0) else (⟨#[]⟩, b.wr.2)
/-- what box.Read answers -/
def rdBox (s : ByteArray) : Except Int BT :=
  match rdAll s with
  | .error _ => .error 6
  | .ok [c, t] => if t.size = 32 then (if tagOf 64 4 c.data.toList = t.data.toList then (match openL c.data.toList 32768 with
      | .error _ => .error 7
      | .ok x => match rdB (bstr x) with
        | none => .error 6
        | some b => .ok b) else .error 21) else .error 6
  | .ok _ => .error 6
end Go.Proofs.YtbeooeihedhabaaDoor
