/- disk.Disk in memory: its cells, its map, its files. -/
import Derived.Test.YtopdhefhagckoaaDSteps
import Derived.Test.YtopdhefhagckoaaRowB
import Derived.Test.YtopdhefhagckoaaCQuiet
import Derived.Test.YtopdhefhagckoaaProg
import Derived.Maps.OwnSet
import Derived.Maps.RangeWalk
import Derived.Sort.KeysCollected
namespace Go.Proofs.Ytopdhefhagckoaa
open Go.RowKit Go.Maps Go.ChangeShapes Go.WideMaps Go.MapKept
set_option maxHeartbeats 1000000
theorem law : Keyed Try.prog 9 := string_keyed Try.underlying9
/-- a file's pointer, read as its block's number -/
def ptrElem (v : Value) : Option (DataW Unit × List MemPlace) :=
  match v with
  | .pointer (some ⟨b, 0, none⟩) => some (.lit (.int .i64 (b : Int)), [])
  | .pointer none => some (.lit (.bool false), [])
  | _ => none
theorem ptrElem_mk (b : Nat) : ptrElem (.pointer (some ⟨b, 0, none⟩)) = some (.lit (.int .i64 (b : Int)), []) := rfl
theorem ptrElem_nil : ptrElem (.pointer none) = some (.lit (.bool false), []) := rfl
theorem ptrElem_inv {v : Value} {ps : List MemPlace} {b : Nat} (h : ptrElem v = some (.lit (.int .i64 (b : Int)), ps)) : v = .pointer (some ⟨b, 0, none⟩) := by
  unfold ptrElem at h
  split at h
  · rename_i c
    have h1 := congrArg Prod.fst (Option.some.inj h)
    injection h1 with h1
    injection h1 with _ h1
    have : c = b := by omega
    rw [this]
  · have h1 := congrArg Prod.fst (Option.some.inj h)
    injection h1 with h1
    cases h1
  · cases h
theorem ptrElem_inv_nil {v : Value} {ps : List MemPlace} (h : ptrElem v = some (.lit (.bool false), ps)) : v = .pointer none := by
  unfold ptrElem at h
  split at h
  · have h1 := congrArg Prod.fst (Option.some.inj h)
    injection h1 with h1
    cases h1
  · rfl
  · cases h
/-- a file and its block -/
abbrev FB := FE × Nat
def fnm (p : FB) : List UInt8 := p.1.nm
def fvl (p : FB) : DataW Unit := .lit (.int .i64 (p.2 : Int))
def files (pl : List FB) : List FE := pl.map Prod.fst
def stOf (pl : List FB) (left : Option Nat) : DS := { fs := files pl, left := left }
/-- what is a disk's -/
def Its (bd bm : Nat) (pl : List FB) : Nat → Prop := fun k => k = bd ∨ k = bm ∨ ∃ p ∈ pl, p.2 = k
structure DkAt (N : Nat) (w W : World) (bd bm : Nat) (pl : List FB) (left : Option Nat) : Prop where
  d : ∃ z : Int, (∀ k, left = some k → z = k ∧ k ≤ 9223372036854775807) ∧ W.heap[bd]? = some (.cells #[.map (some bm), .bool left.isSome, .int .i64 z] 53 (0, 0))
  m : W.ownsMap Try.prog 9 ptrElem bm pl.length (datum fnm fvl pl)
  f : ∀ p ∈ pl, W.heap[p.2]? = some (.cells #[.string p.1.b, .int .i64 (p.1.safe : Int)] 58 (0, 0))
  nd : (pl.map Prod.snd).Nodup
  wf : (stOf pl left).wf
  lo : N ≤ bd ∧ N ≤ bm ∧ ∀ p ∈ pl, N ≤ p.2
  below : Below N w W
/-- a world turned in some blocks alone -/
structure Turn (W W' : World) (S : Nat → Prop) : Prop where
  os : W'.os = W.os
  tape : W'.tape = W.tape
  output : W'.output = W.output
  size : W.heap.size ≤ W'.heap.size
  block : ∀ k, k < W.heap.size → ¬ S k → W'.heap[k]? = W.heap[k]?
theorem Turn.refl (W : World) (S : Nat → Prop) : Turn W W S := ⟨rfl, rfl, rfl, Nat.le_refl _, fun _ _ _ => rfl⟩
theorem Turn.trans {a b c : World} {S T : Nat → Prop} (h : Turn a b S) (k : Turn b c T) (hT : ∀ j, j < a.heap.size → T j → S j) : Turn a c S :=
  ⟨k.os.trans h.os, k.tape.trans h.tape, k.output.trans h.output, Nat.le_trans h.size k.size, fun j hj hn => (k.block j (Nat.lt_of_lt_of_le hj h.size) fun ht => hn (hT j hj ht)).trans (h.block j hj hn)⟩
theorem Turn.of_below {W W' : World} (h : Below W.heap.size W W') (S : Nat → Prop) : Turn W W' S := ⟨h.os, h.tape, h.output, h.size, fun k hk _ => h.block k hk⟩
theorem Turn.below {W W' : World} {S : Nat → Prop} {N : Nat} {w : World} (h : Turn W W' S) (hb : Below N w W) (hN : N ≤ W.heap.size) (hS : ∀ k, S k → N ≤ k) : Below N w W' :=
  hb.trans ⟨h.os, h.tape, h.output, h.size, fun k hk => h.block k (by omega) fun hs => by have := hS k hs; omega⟩
/-- over whatever leaves the disk's blocks alone -/
theorem DkAt.kept {N : Nat} {w W W' : World} {bd bm : Nat} {pl : List FB} {left : Option Nat} (h : DkAt N w W bd bm pl left) {S : Nat → Prop} (hT : Turn W W' S) (hS : ∀ k, Its bd bm pl k → ¬ S k) (hN : ∀ k, S k → N ≤ k) : DkAt N w W' bd bm pl left := by
  obtain ⟨z, hz, hd⟩ := h.d
  have hm := h.m
  have kb := hT.block bm hm.lt (hS bm (.inr (.inl rfl)))
  refine ⟨⟨z, hz, (hT.block bd (block_lt hd) (hS bd (.inl rfl))).trans hd⟩, ?_, fun p hp => (hT.block p.2 (block_lt (h.f p hp)) (hS p.2 (.inr (.inr ⟨p, hp, rfl⟩)))).trans (h.f p hp), h.nd, h.wf, h.lo, hT.below h.below (by have := block_lt hd; have := h.lo; omega) hN⟩
  obtain ⟨es, clock, hb, r⟩ := hm
  exact ⟨es, clock, kb.trans hb, r⟩
theorem DkAt.next {N : Nat} {w W W' : World} {bd bm : Nat} {pl : List FB} {left : Option Nat} (h : DkAt N w W bd bm pl left) (hb : Below W.heap.size W W') : DkAt N w W' bd bm pl left :=
  h.kept (S := fun _ => False) (Turn.of_below hb _) (fun _ _ h => h) (fun _ h => h.elim)
theorem file_zero (w : World) : (zeroValue 55).run Try.prog w = .ok (.pointer none) w := by kernel_rfl
theorem key_str {s : ByteArray} (h : s.size ≤ 140737488355328) : Go.keyOf Try.prog 9 (.string s) = some (Lit.string s.data.toList) := by
  have h2 : s.size ≤ maxLen := by unfold maxLen; omega
  have h3 : mapKey Try.prog 9 (.string s) = some (Lit.string s.data.toList) := by
    unfold mapKey
    rw [Try.underlying9]
    show (if s.size ≤ maxLen then _ else _) = _
    rw [if_pos h2]
  unfold Go.keyOf
  rw [Try.underlying9]
  exact h3
def fptr : Option FB → Value
  | some p => .pointer (some ⟨p.2, 0, none⟩)
  | none => .pointer none
theorem DkAt.look {N : Nat} {w W : World} {bd bm : Nat} {pl : List FB} {left : Option Nat} (h : DkAt N w W bd bm pl left) {s : ByteArray} (hs : s.size ≤ 140737488355328) :
    (Instr.lookup 51 (.map (some bm)) (.string s) false).run Try.prog W = .ok (fptr (findN fnm s.data.toList pl)) W := by
  have hm := h.m
  obtain ⟨v, ps, hrun, hv⟩ := hm.lookup law Try.underlying51 (file_zero W) ptrElem_nil (key_str hs)
  rw [hrun]
  rw [at_datum] at hv
  cases hf : findN fnm s.data.toList pl with
  | none => rw [hf] at hv; rw [ptrElem_inv_nil hv]; rfl
  | some p => rw [hf] at hv; rw [ptrElem_inv hv]; rfl
theorem find_st (pl : List FB) (left : Option Nat) (k : List UInt8) : (stOf pl left).find k = (findN fnm k pl).map Prod.fst := findN_map (nm := fnm) (nm' := FE.nm) (fun _ => rfl) k pl
theorem own_tight {W : World} {b n : Nat} {D : DataW Unit} (h : W.ownsMap Try.prog 9 ptrElem b n D) : W.ownsMap Try.prog 9 ptrElem b (Maps.size D) D := by
  obtain ⟨es, clock, hb, F, _, rfl⟩ := h
  exact ⟨es, clock, hb, F, by simp [Maps.size, length_sorted], rfl⟩
theorem set_row {w : World} {g i : Nat} {cs : List Value} {t : TypeId} {fr : Nat × Nat} (hb : w.heap[g]? = some (.cells cs.toArray t fr)) (v : Value) : (w.setCell ⟨g, i, none⟩ v).heap[g]? = some (.cells (cs.set i v).toArray t fr) := by
  simp [World.setCell, Array.getElem?_modify, hb]
theorem Turn.set (W : World) (b i : Nat) (v : Value) : Turn W (W.setCell ⟨b, i, none⟩ v) (fun k => k = b) :=
  ⟨rfl, rfl, rfl, by simp [World.setCell], fun _ _ hn => Below.heap_setCell _ _ _ _ hn⟩
theorem Turn.grown {W W' : World} {b : Nat} (h : W.grownBy W' (some b)) : Turn W W' (fun k => k = b) :=
  ⟨h.os, h.tape, h.output, h.size, fun k hk hn => h.block k hk (fun e => hn (by injection e))⟩
theorem Turn.mono {W W' : World} {S T : Nat → Prop} (h : Turn W W' S) (hS : ∀ k, k < W.heap.size → S k → T k) : Turn W W' T := ⟨h.os, h.tape, h.output, h.size, fun k hk hn => h.block k hk fun hs => hn (hS k hk hs)⟩
section
variable {N : Nat} {w W W' : World} {bd bm : Nat} {pl : List FB} {left : Option Nat}
theorem DkAt.ne_dm (h : DkAt N w W bd bm pl left) : bd ≠ bm := by
  obtain ⟨z, _, hd⟩ := h.d
  obtain ⟨es, clock, hb, _⟩ := h.m
  rintro rfl
  rw [hd] at hb
  cases hb
theorem DkAt.ne_f (h : DkAt N w W bd bm pl left) {p : FB} (hp : p ∈ pl) : p.2 ≠ bd ∧ p.2 ≠ bm := by
  obtain ⟨z, _, hd⟩ := h.d
  obtain ⟨es, clock, hb, _⟩ := h.m
  have hf := h.f p hp
  constructor
  · intro e
    rw [e, hd] at hf
    have := congrArg (fun o => match o with | some (Obj.cells a _ _) => a.size | _ => 0) hf
    exact absurd this (by show ¬ ((3 : Nat) = 2); decide)
  · intro e
    rw [e, hb] at hf
    cases hf
theorem own_keep {n : Nat} {D : DataW Unit} (h : W.ownsMap Try.prog 9 ptrElem bm n D) (hb : W'.heap[bm]? = W.heap[bm]?) : W'.ownsMap Try.prog 9 ptrElem bm n D := by
  obtain ⟨es, clock, h1, r⟩ := h
  exact ⟨es, clock, hb.trans h1, r⟩
theorem DkAt.szb (h : DkAt N w W bd bm pl left) : N ≤ W.heap.size := by
  obtain ⟨z, _, hd⟩ := h.d
  have := block_lt hd
  have := h.lo.1
  omega
theorem DkAt.rise (h : DkAt N w W bd bm pl left) : Rising fnm pl := by
  have h1 : (pl.map Prod.fst).Pairwise (fun f g : FE => f.nm < g.nm) := h.wf.rising
  have h2 := List.pairwise_map.1 h1
  exact h2
/-- a file's bytes are others -/
theorem DkAt.upd (h : DkAt N w W bd bm pl left) {p : FB} (hp : p ∈ pl) {y : FE} (hn : y.nm = p.1.nm) (hok : y.ok) (hT : Turn W W' (fun k => k = p.2)) (hrow : W'.heap[p.2]? = some (.cells #[.string y.b, .int .i64 (y.safe : Int)] 58 (0, 0))) :
    DkAt N w W' bd bm (putN fnm (y, p.2) pl) left := by
  have hne := h.ne_f hp
  obtain ⟨z, hz, hd⟩ := h.d
  have hris : Rising fnm pl := h.rise
  have hex : ∃ g ∈ pl, fnm g = fnm (y, p.2) := ⟨p, hp, hn.symm⟩
  have hrep := putN_replace (f := (y, p.2)) hris hex
  have huniq : ∀ q ∈ pl, fnm q = y.nm → q = p := fun q hq e => by
    have hq1 := findN_some (nm := fnm) (l := pl) (k := y.nm) (f := q)
    rcases List.pairwise_iff_getElem.1 hris with hpw
    obtain ⟨i, hi, rfl⟩ := List.mem_iff_getElem.1 hq
    obtain ⟨j, hj, rfl⟩ := List.mem_iff_getElem.1 hp
    have hij : fnm pl[i] = fnm pl[j] := e.trans hn
    rcases Nat.lt_trichotomy i j with hlt | rfl | hlt
    · have := hpw i j hi hj hlt; rw [hij] at this; exact absurd this (lt_irrefl _)
    · rfl
    · have := hpw j i hj hi hlt; rw [hij] at this; exact absurd this (lt_irrefl _)
  have hsnd : (putN fnm (y, p.2) pl).map Prod.snd = pl.map Prod.snd := by
    rw [hrep, List.map_map]
    apply List.map_congr_left
    intro q hq
    show (if fnm q = y.nm then (y, p.2) else q).2 = q.2
    split
    · rename_i e; rw [huniq q hq e]
    · rfl
  have hent : (putN fnm (y, p.2) pl).map (ent fnm fvl) = pl.map (ent fnm fvl) := by
    rw [hrep, List.map_map]
    apply List.map_congr_left
    intro q hq
    show ent fnm fvl (if fnm q = y.nm then (y, p.2) else q) = ent fnm fvl q
    split
    · rename_i e
      rw [huniq q hq e]
      show (Lit.string y.nm, _) = (Lit.string p.1.nm, _)
      rw [hn]; rfl
    · rfl
  have hlen : (putN fnm (y, p.2) pl).length = pl.length := by rw [hrep, List.length_map]
  refine ⟨⟨z, hz, (hT.block bd (block_lt hd) hne.1.symm).trans hd⟩, ?_, fun q hq => ?_, by rw [hsnd]; exact h.nd, ?_, ⟨h.lo.1, h.lo.2.1, fun q hq => ?_⟩, hT.below h.below h.szb (fun k e => by rw [e]; exact h.lo.2.2 p hp)⟩
  · rw [hlen, datum, hent]
    exact own_keep h.m (hT.block bm h.m.lt hne.2.symm)
  · rcases mem_putN' hris hq with rfl | ⟨hq, hqn⟩
    · exact hrow
    · refine (hT.block q.2 (block_lt (h.f q hq)) fun e => ?_).trans (h.f q hq)
      have hnd := h.nd
      obtain ⟨i, hi, rfl⟩ := List.mem_iff_getElem.1 hq
      obtain ⟨j, hj, rfl⟩ := List.mem_iff_getElem.1 hp
      have hij : i = j := by
        have h1 := List.pairwise_iff_getElem.1 hnd
        rcases Nat.lt_trichotomy i j with hlt | he | hlt
        · exact absurd (by rw [List.getElem_map, List.getElem_map]; exact e) (h1 i j (by simpa using hi) (by simpa using hj) hlt)
        · exact he
        · exact absurd (by rw [List.getElem_map, List.getElem_map]; exact e.symm) (h1 j i (by simpa using hj) (by simpa using hi) hlt)
      subst hij
      exact hqn hn.symm
  · have hfs : (stOf (putN fnm (y, p.2) pl) left).fs = putN FE.nm y (files pl) := putN_map (nm := fnm) (nm' := FE.nm) (fun _ => rfl) (y, p.2) pl
    refine ⟨by rw [hfs]; exact h.wf.rising.put, fun f hf => ?_, ?_⟩
    · rw [hfs] at hf
      rcases mem_putN hf with rfl | hf
      · exact hok
      · exact h.wf.files f hf
    · show ((putN fnm (y, p.2) pl).map Prod.fst).length ≤ 8
      rw [List.length_map, hlen]
      have := h.wf.few
      simpa [stOf, files] using this
  · rcases mem_putN hq with rfl | hq
    · exact h.lo.2.2 p hp
    · exact h.lo.2.2 q hq
theorem datum_size (l : List FB) : Maps.size (datum fnm fvl l) = l.length := size_datum l
/-- a file is put under a name -/
theorem DkAt.store (h : DkAt N w W bd bm pl left) {x : FB} (hx : W.heap[x.2]? = some (.cells #[.string x.1.b, .int .i64 (x.1.safe : Int)] 58 (0, 0))) (hnew : ∀ p ∈ pl, p.2 ≠ x.2) (hlo : N ≤ x.2) (hw : (stOf (putN fnm x pl) left).wf) {n : Nat}
    (hm : W'.ownsMap Try.prog 9 ptrElem bm n ((datum fnm fvl pl).put (.string (fnm x)) (fvl x))) (hT : Turn W W' (fun k => k = bm)) : DkAt N w W' bd bm (putN fnm x pl) left := by
  have hdm := h.ne_dm
  obtain ⟨z, hz, hd⟩ := h.d
  have hris := h.rise
  have hxm : x.2 ≠ bm := by
    obtain ⟨es, clock, hb, _⟩ := h.m
    intro e
    rw [e, hb] at hx
    cases hx
  refine ⟨⟨z, hz, (hT.block bd (block_lt hd) hdm).trans hd⟩, ?_, fun q hq => ?_, ?_, hw, ⟨h.lo.1, h.lo.2.1, fun q hq => ?_⟩, hT.below h.below h.szb (fun k e => by rw [e]; exact h.lo.2.1)⟩
  · rw [put_datum hris] at hm
    have := own_tight hm
    rw [datum_size] at this
    exact this
  · rcases mem_putN hq with rfl | hq
    · exact (hT.block _ (block_lt hx) hxm).trans hx
    · exact (hT.block q.2 (block_lt (h.f q hq)) (h.ne_f hq).2).trans (h.f q hq)
  · have hnd := h.nd
    clear hm hw
    have key : ∀ l : List FB, (l.map Prod.snd).Nodup → (∀ p ∈ l, p.2 ≠ x.2) → ((putN fnm x l).map Prod.snd).Nodup := by
      intro l
      induction l with
      | nil => intro _ _; simp [putN]
      | cons g l ih =>
        intro h1 h2
        rw [List.map_cons, List.nodup_cons] at h1
        have hl2 : ∀ p ∈ l, p.2 ≠ x.2 := fun p hp => h2 p (List.mem_cons_of_mem _ hp)
        have hxl : x.2 ∉ l.map Prod.snd := fun hm => by
          obtain ⟨p, hp, e⟩ := List.mem_map.1 hm
          exact hl2 p hp e
        unfold putN
        split
        · rw [List.map_cons, List.nodup_cons]
          exact ⟨hxl, h1.2⟩
        · split
          · rw [List.map_cons, List.nodup_cons, List.map_cons, List.nodup_cons]
            refine ⟨fun hm => ?_, h1⟩
            rcases List.mem_cons.1 hm with e | hm
            · exact h2 g List.mem_cons_self e.symm
            · exact hxl hm
          · rw [List.map_cons, List.nodup_cons]
            refine ⟨fun hm => ?_, ih h1.2 hl2⟩
            obtain ⟨p, hp, e⟩ := List.mem_map.1 hm
            rcases mem_putN hp with rfl | hp
            · exact h2 g List.mem_cons_self e.symm
            · exact h1.1 (List.mem_map.2 ⟨p, hp, e⟩)
    exact key pl hnd hnew
  · rcases mem_putN hq with rfl | hq
    · exact hlo
    · exact h.lo.2.2 q hq
/-- a name is gone -/
theorem DkAt.del (h : DkAt N w W bd bm pl left) (k : List UInt8) {n : Nat} (hm : W'.ownsMap Try.prog 9 ptrElem bm n ((datum fnm fvl pl).del (.string k))) (hT : Turn W W' (fun k => k = bm)) : DkAt N w W' bd bm (dropN fnm k pl) left := by
  have hdm := h.ne_dm
  obtain ⟨z, hz, hd⟩ := h.d
  have hmem : ∀ q ∈ dropN fnm k pl, q ∈ pl := fun q hq => (List.mem_filter.1 hq).1
  have hfs : (stOf (dropN fnm k pl) left).fs = dropN FE.nm k (files pl) := dropN_map (nm := fnm) (nm' := FE.nm) (fun _ => rfl) k pl
  refine ⟨⟨z, hz, (hT.block bd (block_lt hd) hdm).trans hd⟩, ?_, fun q hq => (hT.block q.2 (block_lt (h.f q (hmem q hq))) (h.ne_f (hmem q hq)).2).trans (h.f q (hmem q hq)), h.nd.sublist (List.filter_sublist.map _), ?_, ⟨h.lo.1, h.lo.2.1, fun q hq => h.lo.2.2 q (hmem q hq)⟩, hT.below h.below h.szb (fun k e => by rw [e]; exact h.lo.2.1)⟩
  · rw [del_datum] at hm
    have := own_tight hm
    rw [datum_size] at this
    exact this
  · refine ⟨by rw [hfs]; exact h.wf.rising.drop, fun f hf => ?_, ?_⟩
    · rw [hfs] at hf
      exact h.wf.files f (drop_mem hf)
    · have h1 := List.length_filter_le (fun f : FB => decide (fnm f ≠ k)) pl
      have h2 := h.wf.few
      have h3 : (files pl).length = pl.length := List.length_map ..
      have h4 : (stOf pl left).fs.length = pl.length := h3
      show ((dropN fnm k pl).map Prod.fst).length ≤ 8
      rw [List.length_map]
      unfold dropN
      omega
/-- an operation is counted, or the disk is armed, or not -/
theorem DkAt.setd (h : DkAt N w W bd bm pl left) {left' : Option Nat} {z' : Int} (hz : ∀ k, left' = some k → z' = k ∧ k ≤ 9223372036854775807) (hT : Turn W W' (fun k => k = bd)) (hrow : W'.heap[bd]? = some (.cells #[.map (some bm), .bool left'.isSome, .int .i64 z'] 53 (0, 0))) : DkAt N w W' bd bm pl left' := by
  have hdm := h.ne_dm
  exact ⟨⟨z', hz, hrow⟩, own_keep h.m (hT.block bm h.m.lt hdm.symm), fun q hq => (hT.block q.2 (block_lt (h.f q hq)) (h.ne_f hq).1).trans (h.f q hq), h.nd, ⟨h.wf.rising, h.wf.files, h.wf.few⟩, h.lo, hT.below h.below h.szb (fun k e => by rw [e]; exact h.lo.1)⟩
end
end Go.Proofs.Ytopdhefhagckoaa
