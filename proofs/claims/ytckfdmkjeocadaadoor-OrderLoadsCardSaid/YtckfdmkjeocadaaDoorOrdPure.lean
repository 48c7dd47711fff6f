/- What a log's receipts are, call by call: no walk. -/
import Derived.Test.YtckfdmkjeocadaaDoorLogPut
namespace Go.Proofs.YtckfdmkjeocadaaDoor
/-- the counts behind a receipt -/
def cnt1 (nx : List Int) (r : RC) : List Int := if r.kind = 1 then (match rdTx r.body with | .ok t => bump nx t.frm | .error _ => nx) else nx
def cnt (rs : List RC) : List Int := rs.foldl cnt1 zn64
theorem cnt_snoc (rs : List RC) (r : RC) : cnt (rs ++ [r]) = cnt1 (cnt rs) r := by simp [cnt]
theorem mk_bad {rs : List RC} {nx : List Int} {k t : Int} {b : ByteArray} (h : mkErr rs nx k b t ≠ 0) : mkRc rs nx k b t = RC.zero := by
  unfold mkErr at h
  unfold mkRc
  split
  · rename_i h1
    rw [if_pos h1] at h
    unfold linkErr at h
    unfold linkRes
    split
    · rename_i h2
      rw [if_pos h2] at h
      exact absurd rfl h
    · rfl
  · rfl
theorem mk_ok {rs : List RC} {nx : List Int} {k t : Int} {b : ByteArray} (h : mkErr rs nx k b t = 0) :
    (fromOf rs nx k b t).2 = 0 ∧ (RC.mk rs.length k t b (headOf rs) z32).good = true ∧ mkRc rs nx k b t = linkOf (headOf rs) rs.length k t b ∧ mkWho rs nx k b t = (fromOf rs nx k b t).1 := by
  unfold mkErr at h
  split at h
  · rename_i h1
    unfold linkErr at h
    split at h
    · rename_i h2
      refine ⟨h1, h2, ?_, ?_⟩
      · rw [mkRc, if_pos h1, linkRes, if_pos h2]
      · rw [mkWho, if_pos h1]
    · exact absurd h (by decide)
  · exact absurd h (by assumption)
theorem from_ok {rs : List RC} {nx : List Int} {k t : Int} {b : ByteArray} (h : (fromOf rs nx k b t).2 = 0) :
    isLate rs t = false ∧ ((k = 1 ∧ ∃ x, rdTx b = .ok x ∧ x.signed = 0 ∧ x.nonce = nx.getD x.frm.toNat 0 ∧ (fromOf rs nx k b t).1 = x.frm) ∨ (k ≠ 1 ∧ (fromOf rs nx k b t).1 = -1)) := by
  unfold fromOf at h ⊢
  split at h
  · exact absurd h (by decide)
  · rename_i h1
    rw [if_neg h1]
    refine ⟨by simpa using h1, ?_⟩
    split at h
    · rename_i h2
      rw [if_pos h2]
      refine .inl ⟨h2, ?_⟩
      unfold theirs at h ⊢
      split at h
      · exact absurd h (by simp)
      · rename_i x hx
        split at h
        · rename_i h3
          split at h
          · rename_i h4
            refine ⟨x, hx, h3, h4, ?_⟩
            simp only [if_pos h3, if_pos h4]
          · exact absurd h (by simp)
        · exact absurd h (by simp)
    · rename_i h2
      rw [if_neg h2]
      exact .inr ⟨h2, rfl⟩
theorem frm_of {b : ByteArray} {x : TX} (h : rdTx b = .ok x) : 0 ≤ x.frm ∧ x.frm < 64 := by
  obtain ⟨_, hc, _⟩ := tx_back h
  have := (TX.chk_zero hc).1
  omega
theorem mkWho_lt (rs : List RC) (nx : List Int) (k t : Int) (b : ByteArray) : mkWho rs nx k b t < 64 := by
  unfold mkWho
  split
  · rename_i h
    rcases (from_ok h).2 with ⟨_, x, hx, _, _, h5⟩ | ⟨_, h5⟩
    · rw [h5]; exact (frm_of hx).2
    · rw [h5]; decide
  · decide
theorem cnt_mk {rs : List RC} {nx : List Int} {k t : Int} {b : ByteArray} (h : mkErr rs nx k b t = 0) : bump nx (mkWho rs nx k b t) = cnt1 nx (mkRc rs nx k b t) := by
  obtain ⟨h1, _, h3, h4⟩ := mk_ok h
  rw [h3, h4, cnt1]
  rcases (from_ok h1).2 with ⟨hk, x, hx, _, _, h5⟩ | ⟨hk, h5⟩
  · rw [if_pos (show (linkOf (headOf rs) rs.length k t b).kind = 1 from hk), h5, show (linkOf (headOf rs) rs.length k t b).body = b from rfl, hx]
  · rw [if_neg (show ¬ (linkOf (headOf rs) rs.length k t b).kind = 1 from hk), h5]
    rfl
/-- the receipts behind an Add -/
def nextRs (rs : List RC) (k : Int) (b : ByteArray) (t : Int) : List RC := if mkErr rs (cnt rs) k b t = 0 then rs ++ [mkRc rs (cnt rs) k b t] else rs
theorem next_ok {rs : List RC} {k t : Int} {b : ByteArray} (h : mkErr rs (cnt rs) k b t = 0) : nextRs rs k b t = rs ++ [mkRc rs (cnt rs) k b t] ∧ bump (cnt rs) (mkWho rs (cnt rs) k b t) = cnt (rs ++ [mkRc rs (cnt rs) k b t]) :=
  ⟨by rw [nextRs, if_pos h], by rw [cnt_snoc, cnt_mk h]⟩
theorem next_bad {rs : List RC} {k t : Int} {b : ByteArray} (h : mkErr rs (cnt rs) k b t ≠ 0) : nextRs rs k b t = rs := by rw [nextRs, if_neg h]
theorem next_length (rs : List RC) (k t : Int) (b : ByteArray) : (nextRs rs k b t).length ≤ rs.length + 1 := by
  unfold nextRs
  split <;> simp
theorem mkRc_wf {rs : List RC} {nx : List Int} {k t : Int} {b : ByteArray} (h : ∀ r ∈ rs, r.wf) (hn : rs.length ≤ 1000) (h1 : i64ok k) (h2 : i64ok t) (hs : b.size ≤ 140737488351232) : (mkRc rs nx k b t).wf := by
  unfold mkRc
  split
  · exact linkRes_wf (rc0_wf h hn h1 h2 hs)
  · exact RC.zero_wf
/-- a receipt is the one that comes next -/
def OkStep (rs : List RC) (r : RC) : Prop := mkErr rs (cnt rs) r.kind r.body r.time = 0 ∧ mkRc rs (cnt rs) r.kind r.body r.time = r
instance (rs : List RC) (r : RC) : Decidable (OkStep rs r) := by unfold OkStep; infer_instance
theorem OkStep.of_mk {rs : List RC} {k t : Int} {b : ByteArray} (h : mkErr rs (cnt rs) k b t = 0) : OkStep rs (mkRc rs (cnt rs) k b t) := by
  have h3 := (mk_ok h).2.2.1
  have e1 : (mkRc rs (cnt rs) k b t).kind = k := by rw [h3]; rfl
  have e2 : (mkRc rs (cnt rs) k b t).body = b := by rw [h3]; rfl
  have e3 : (mkRc rs (cnt rs) k b t).time = t := by rw [h3]; rfl
  unfold OkStep
  rw [e1, e2, e3]
  exact ⟨h, rfl⟩
theorem OkStep.is {rs : List RC} {r : RC} (h : OkStep rs r) : r = linkOf (headOf rs) rs.length r.kind r.time r.body := by rw [← (mk_ok h.1).2.2.1, h.2]
theorem OkStep.index {rs : List RC} {r : RC} (h : OkStep rs r) : r.index = rs.length := by rw [h.is]; rfl
theorem OkStep.good {rs : List RC} {r : RC} (h : OkStep rs r) : r.good = true := by
  have h2 := (mk_ok h.1).2.1
  rw [h.is]
  exact h2
theorem OkStep.next {rs : List RC} {r : RC} (h : OkStep rs r) : nextRs rs r.kind r.body r.time = rs ++ [r] := by rw [(next_ok h.1).1, h.2]
/-- receipts of which each is the one that comes next -/
def Chain (rs : List RC) : Prop := ∀ i (h : i < rs.length), OkStep (rs.take i) (rs[i]'h)
theorem Chain.nil : Chain [] := fun i h => absurd h (by simp)
theorem Chain.snoc {rs : List RC} {r : RC} (h : Chain rs) (hr : OkStep rs r) : Chain (rs ++ [r]) := by
  intro i hi
  rw [List.length_append, List.length_singleton] at hi
  by_cases h1 : i < rs.length
  · rw [List.take_append_of_le_length (by omega), List.getElem_append_left h1]
    exact h i h1
  · obtain rfl : i = rs.length := by omega
    rw [List.take_left, List.getElem_append_right (by omega)]
    simpa using hr
theorem Chain.next {rs : List RC} {k t : Int} {b : ByteArray} (h : Chain rs) : Chain (nextRs rs k b t) := by
  unfold nextRs
  split
  · rename_i h1
    exact h.snoc (OkStep.of_mk h1)
  · exact h
theorem Chain.wf {rs : List RC} (h : Chain rs) : ∀ r ∈ rs, r.good = true := by
  intro r hr
  obtain ⟨i, hi, rfl⟩ := List.mem_iff_getElem.1 hr
  exact (h i hi).good
/-- a receipt of a place is none that comes next at another place -/
theorem Chain.other {rs : List RC} (h : Chain rs) {i k : Nat} (hi : i < rs.length) (hk : k < i) : ¬ OkStep (rs.take k) (rs[i]'hi) := fun h2 => by
  have h3 := h2.index
  rw [(h i hi).index, List.length_take, List.length_take] at h3
  omega
end Go.Proofs.YtckfdmkjeocadaaDoor
