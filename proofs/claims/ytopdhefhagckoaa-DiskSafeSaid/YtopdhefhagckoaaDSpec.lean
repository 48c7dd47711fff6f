/- disk: what its calls answer, over a list of files; what is safe stays; what is apart stays. -/
import Derived.Test.YtopdhefhagckoaaDDatum
namespace Go.Proofs.Ytopdhefhagckoaa
open Go.RowKit
/-- a file: its name, its bytes, how many of them are safe -/
structure FE where
  nm : List UInt8
  b : ByteArray
  safe : Nat
/-- a disk: its files by rising names; how many operations are left, where somebody counts -/
structure DS where
  fs : List FE
  left : Option Nat
def letter (c : UInt8) : Bool := (decide (97 ≤ c.toNat) && decide (c.toNat ≤ 122)) || (decide (48 ≤ c.toNat) && decide (c.toNat ≤ 57)) || decide (c.toNat = 46)
def isWord (s : List UInt8) : Bool := decide (1 ≤ s.length) && decide (s.length ≤ 16) && s.all letter
def DS.down (d : DS) : Bool := decide (d.left = some 0)
def DS.find (d : DS) (nm : List UInt8) : Option FE := findN FE.nm nm d.fs
/-- an operation is done, with these files -/
def DS.did (d : DS) (fs : List FE) : DS := { fs := fs, left := d.left.map fun k => k - 1 }
def DS.append (d : DS) (nm : List UInt8) (s : ByteArray) : DS × Int :=
  if d.down = true then (d, 8)
  else if isWord nm = false then (d, 2)
  else match d.find nm with
    | some f => if 1048576 < f.b.size + s.size then (d, 3) else (d.did (putN FE.nm { f with b := f.b ++ s } d.fs), 0)
    | none => if 1048576 < s.size then (d, 3) else if 8 ≤ d.fs.length then (d, 25) else (d.did (putN FE.nm { nm := nm, b := s, safe := 0 } d.fs), 0)
def DS.sync (d : DS) (nm : List UInt8) : DS × Int :=
  if d.down = true then (d, 8)
  else match d.find nm with
    | some f => (d.did (putN FE.nm { f with safe := f.b.size } d.fs), 0)
    | none => (d, 34)
def DS.rename (d : DS) (nm to_ : List UInt8) : DS × Int :=
  if d.down = true then (d, 8)
  else match d.find nm with
    | some f => if isWord to_ = false then (d, 2) else (d.did (putN FE.nm { f with nm := to_ } (dropN FE.nm nm d.fs)), 0)
    | none => (d, 34)
def DS.remove (d : DS) (nm : List UInt8) : DS × Int :=
  if d.down = true then (d, 8)
  else match d.find nm with
    | some _ => (d.did (dropN FE.nm nm d.fs), 0)
    | none => (d, 34)
def DS.look (d : DS) (nm : List UInt8) : ByteArray × Nat × Int :=
  if d.down = true then (ByteArray.empty, 0, 8)
  else match d.find nm with
    | some f => (f.b, f.safe, 0)
    | none => (ByteArray.empty, 0, 34)
def DS.names (d : DS) : List (List UInt8) := if d.down = true then [] else d.fs.map FE.nm
def DS.arm (d : DS) (n : Int) : DS × Int :=
  if d.down = true then (d, 8) else if n < 0 then (d, 2) else ({ d with left := some n.toNat }, 0)
/-- how many bytes more a file keeps -/
def kept (f : FE) (k : Int) : Nat := min k.toNat (f.b.size - f.safe)
def torn (f : FE) (k : Int) : FE := { f with b := f.b.extract 0 (f.safe + kept f k), safe := f.safe + kept f k }
def crashL : List FE → List Int → List FE
  | [], _ => []
  | f :: l, [] => torn f 0 :: crashL l []
  | f :: l, k :: ks => torn f k :: crashL l ks
def DS.crash (d : DS) (keep : List Int) : DS := { fs := crashL d.fs keep, left := none }
def DS.new : DS := { fs := [], left := none }
/-- a file may be so -/
def FE.ok (f : FE) : Prop := isWord f.nm = true ∧ f.safe ≤ f.b.size ∧ f.b.size ≤ 1048576
structure DS.wf (d : DS) : Prop where
  rising : Rising FE.nm d.fs
  files : ∀ f ∈ d.fs, f.ok
  few : d.fs.length ≤ 8
theorem put_len_new {f : FE} : ∀ {l : List FE}, findN FE.nm f.nm l = none → (putN FE.nm f l).length = l.length + 1
  | [], _ => rfl
  | g :: l, h => by
    have hg := findN_none h g List.mem_cons_self
    have hl : findN FE.nm f.nm l = none := List.find?_eq_none.2 fun x hx => by simpa using findN_none h x (List.mem_cons_of_mem _ hx)
    unfold putN
    rw [if_neg hg]
    split
    · rfl
    · rw [List.length_cons, put_len_new hl, List.length_cons]
theorem put_len_old {f : FE} : ∀ {l : List FE}, Rising FE.nm l → (∃ g ∈ l, g.nm = f.nm) → (putN FE.nm f l).length = l.length
  | [], _, ⟨_, h, _⟩ => by cases h
  | g :: l, h, ⟨x, hx, he⟩ => by
    have h1 := List.pairwise_cons.1 h
    unfold putN
    by_cases hg : g.nm = f.nm
    · rw [if_pos hg]; rfl
    · rw [if_neg hg]
      have hxl : x ∈ l := by
        rcases List.mem_cons.1 hx with rfl | hx
        · exact absurd he hg
        · exact hx
      have hlt : ¬ f.nm < g.nm := fun h2 => lt_irrefl g.nm (lt_trans' (h1.1 x hxl) (by rw [he]; exact h2))
      rw [if_neg hlt, List.length_cons, put_len_old h1.2 ⟨x, hxl, he⟩, List.length_cons]
theorem drop_len {k : List UInt8} {f : FE} : ∀ {l : List FE}, f ∈ l → f.nm = k → (dropN FE.nm k l).length + 1 ≤ l.length
  | [], h, _ => by cases h
  | g :: l, h, he => by
    unfold dropN
    by_cases hg : g.nm = k
    · rw [List.filter_cons_of_neg (by simpa using hg), List.length_cons]
      have := List.length_filter_le (fun f : FE => decide (f.nm ≠ k)) l
      omega
    · rw [List.filter_cons_of_pos (by simpa using hg), List.length_cons, List.length_cons]
      have hl : f ∈ l := by
        rcases List.mem_cons.1 h with rfl | h
        · exact absurd he hg
        · exact h
      have := drop_len (k := k) hl he
      unfold dropN at this
      omega
theorem put_len_le {f : FE} {l : List FE} : (putN FE.nm f l).length ≤ l.length + 1 := by
  induction l with
  | nil => simp [putN]
  | cons g l ih =>
    unfold putN
    split
    · simp
    · split
      · simp
      · simp only [List.length_cons]; omega
theorem drop_mem {k : List UInt8} {l : List FE} {f : FE} (h : f ∈ dropN FE.nm k l) : f ∈ l := (List.mem_filter.1 h).1
theorem wf_new : DS.new.wf := ⟨List.Pairwise.nil, (fun f h => by cases h), by decide⟩
theorem DS.find_mem {d : DS} {nm : List UInt8} {f : FE} (h : d.find nm = some f) : f ∈ d.fs ∧ f.nm = nm := findN_some h
theorem wf_append {d : DS} (h : d.wf) (nm : List UInt8) (s : ByteArray) : (d.append nm s).1.wf := by
  unfold DS.append
  split
  · exact h
  · split
    · exact h
    · rename_i hw
      have hw' : isWord nm = true := by simpa using hw
      cases hf : d.find nm with
      | some f =>
        obtain ⟨hm, hn⟩ := DS.find_mem hf
        dsimp only
        split
        · exact h
        · rename_i hb
          refine ⟨h.rising.put, fun g hg => ?_, ?_⟩
          · rcases mem_putN hg with rfl | hg
            · have := h.files f hm
              exact ⟨this.1, by rw [show ({ f with b := f.b ++ s } : FE).b.size = f.b.size + s.size from ByteArray.size_append]; have := this.2.1; show f.safe ≤ _; omega, by rw [show ({ f with b := f.b ++ s } : FE).b.size = f.b.size + s.size from ByteArray.size_append]; omega⟩
            · exact h.files g hg
          · have := put_len_old (f := { f with b := f.b ++ s }) h.rising ⟨f, hm, rfl⟩
            show (putN _ _ _).length ≤ 8
            rw [this]
            exact h.few
      | none =>
        dsimp only
        split
        · exact h
        · split
          · exact h
          · refine ⟨h.rising.put, fun g hg => ?_, ?_⟩
            · rcases mem_putN hg with rfl | hg
              · exact ⟨hw', Nat.zero_le _, by show s.size ≤ _; omega⟩
              · exact h.files g hg
            · have := put_len_le (f := { nm := nm, b := s, safe := 0 }) (l := d.fs)
              show (putN _ _ _).length ≤ 8
              omega
theorem wf_sync {d : DS} (h : d.wf) (nm : List UInt8) : (d.sync nm).1.wf := by
  unfold DS.sync
  split
  · exact h
  · cases hf : d.find nm with
    | none => exact h
    | some f =>
      obtain ⟨hm, hn⟩ := DS.find_mem hf
      refine ⟨h.rising.put, fun g hg => ?_, ?_⟩
      · rcases mem_putN hg with rfl | hg
        · have := h.files f hm
          exact ⟨this.1, Nat.le_refl _, this.2.2⟩
        · exact h.files g hg
      · have := put_len_old (f := { f with safe := f.b.size }) h.rising ⟨f, hm, rfl⟩
        show (putN _ _ _).length ≤ 8
        rw [this]
        exact h.few
theorem wf_rename {d : DS} (h : d.wf) (nm to_ : List UInt8) : (d.rename nm to_).1.wf := by
  unfold DS.rename
  split
  · exact h
  · cases hf : d.find nm with
    | none => exact h
    | some f =>
      obtain ⟨hm, hn⟩ := DS.find_mem hf
      dsimp only
      split
      · exact h
      · rename_i hw
        refine ⟨h.rising.drop.put, fun g hg => ?_, ?_⟩
        · rcases mem_putN hg with rfl | hg
          · have := h.files f hm
            exact ⟨by simpa using hw, this.2⟩
          · exact h.files g (drop_mem hg)
        · have h1 := put_len_le (f := { f with nm := to_ }) (l := dropN FE.nm nm d.fs)
          have h2 := drop_len hm hn
          have := h.few
          show (putN _ _ _).length ≤ 8
          omega
theorem wf_remove {d : DS} (h : d.wf) (nm : List UInt8) : (d.remove nm).1.wf := by
  unfold DS.remove
  split
  · exact h
  · cases hf : d.find nm with
    | none => exact h
    | some f =>
      refine ⟨h.rising.drop, fun g hg => h.files g (drop_mem hg), ?_⟩
      have := List.length_filter_le (fun f : FE => decide (f.nm ≠ nm)) d.fs
      have := h.few
      show (dropN _ _ _).length ≤ 8
      unfold dropN
      omega
theorem wf_arm {d : DS} (h : d.wf) (n : Int) : (d.arm n).1.wf := by
  unfold DS.arm
  split
  · exact h
  · split
    · exact h
    · exact ⟨h.rising, h.files, h.few⟩
theorem torn_ok {f : FE} (h : f.ok) (k : Int) : (torn f k).ok := by
  have hk : f.safe + kept f k ≤ f.b.size := by unfold kept; have := h.2.1; omega
  have hs : (torn f k).b.size = f.safe + kept f k := by
    show (f.b.extract 0 _).size = _
    rw [ByteArray.size_extract]
    omega
  exact ⟨h.1, by rw [hs]; exact Nat.le_refl _, by rw [hs]; have := h.2.2; omega⟩
theorem crashL_nm : ∀ (l : List FE) (ks : List Int), (crashL l ks).map FE.nm = l.map FE.nm
  | [], _ => rfl
  | f :: l, [] => by rw [crashL, List.map_cons, List.map_cons, crashL_nm l []]; rfl
  | f :: l, k :: ks => by rw [crashL, List.map_cons, List.map_cons, crashL_nm l ks]; rfl
theorem crashL_ok : ∀ (l : List FE) (ks : List Int), (∀ f ∈ l, f.ok) → ∀ f ∈ crashL l ks, f.ok
  | [], _, _, f, h => by cases h
  | g :: l, [], hl, f, h => by
    rcases List.mem_cons.1 h with rfl | h
    · exact torn_ok (hl g List.mem_cons_self) 0
    · exact crashL_ok l [] (fun x hx => hl x (List.mem_cons_of_mem _ hx)) f h
  | g :: l, k :: ks, hl, f, h => by
    rcases List.mem_cons.1 h with rfl | h
    · exact torn_ok (hl g List.mem_cons_self) k
    · exact crashL_ok l ks (fun x hx => hl x (List.mem_cons_of_mem _ hx)) f h
theorem rising_of_nm {l m : List FE} (h : l.map FE.nm = m.map FE.nm) (hl : Rising FE.nm l) : Rising FE.nm m := by
  have h1 : (l.map FE.nm).Pairwise (fun a b => a < b) := List.pairwise_map.2 hl
  rw [h] at h1
  exact List.pairwise_map.1 h1
theorem wf_crash {d : DS} (h : d.wf) (ks : List Int) : (d.crash ks).wf := by
  refine ⟨rising_of_nm (crashL_nm d.fs ks).symm h.rising, crashL_ok d.fs ks h.files, ?_⟩
  have := congrArg List.length (crashL_nm d.fs ks)
  simp only [List.length_map] at this
  show (crashL d.fs ks).length ≤ 8
  rw [this]
  exact h.few
end Go.Proofs.Ytopdhefhagckoaa
