/- Laws of my own over any program: rows of bytes, strings out of them. Plain facts on numbers as bytes (octets.Number): no program in sight. Laws of my own over any program: slices of strings that are read; copy out of a string. SHA-256 in plain Lean, spelled as the walks spell it: no program in sight. -/
import Derived.WalkKit
import Derived.Lib.Hide
import Derived.Deep.Draws
import Derived.Lib.BufferWrite
import Derived.Laws.CopyOwn
namespace Go.Proofs.YtbeooeihedhabaaDoor
open Go.RowKit
def bstr (l : List UInt8) : ByteArray := ⟨l.toArray⟩
theorem bstr_toList (l : List UInt8) : (bstr l).data.toList = l := rfl
theorem bstr_of (s : ByteArray) : bstr s.data.toList = s := rfl
theorem bstr_size (l : List UInt8) : (bstr l).size = l.length := rfl
theorem bstr_append (a b : List UInt8) : bstr a ++ bstr b = bstr (a ++ b) := by
  apply ByteArray.ext
  simp [bstr]
theorem bstr_inj {a b : List UInt8} (h : bstr a = bstr b) : a = b := by
  have := congrArg (fun s => s.data.toList) h
  simpa [bstr] using this
def u8s (l : List UInt8) : List Value := l.map fun b => Value.int .u8 b.toNat
theorem u8s_length (l : List UInt8) : (u8s l).length = l.length := by simp [u8s]
theorem u8s_append (a b : List UInt8) : u8s (a ++ b) = u8s a ++ u8s b := by simp [u8s]
theorem u8s_get (l : List UInt8) (i : Nat) (h : i < l.length) : (u8s l)[i]? = some (.int .u8 (l[i]'h).toNat) := by
  simp [u8s, List.getElem?_eq_getElem h]
theorem conv_row {P : Program} {w : World} {src dst e : TypeId} {b off len cap : Nat} (l : List UInt8) (hs : P.underlying src = some (.slice e)) (he : P.underlying e = some (.int .u8)) (hd : P.underlying dst = some .string)
    (hl : l.length = len) (hc : ∀ i, i < len → w.cell? ⟨b, off + i, none⟩ = (u8s l)[i]?) :
    (convert src dst (.slice (some ⟨b, off, none⟩) len cap)).run P w = .ok (.string (bstr l)) w := by
  have h := run_convert_bytes_arg (P := P) w src e hs he b off len cap (l.map fun x => (x.toNat : Int)) (by simpa using hl) (fun i hi => by
    rw [hc i hi, u8s_get l i (by omega)]
    simp [List.getElem?_eq_getElem (show i < l.length by omega), List.getD]) dst hd
  rw [h]
  congr 2
  unfold strOfNums bstr
  congr 2
  rw [List.map_map]
  conv => rhs; rw [← List.map_id l]
  apply List.map_congr_left
  intro x _
  simp
theorem conv_new {P : Program} {w : World} {src dst e t : TypeId} {off len cap : Nat} {cs : Array Value} (l : List UInt8) (hs : P.underlying src = some (.slice e)) (he : P.underlying e = some (.int .u8)) (hd : P.underlying dst = some .string)
    (hl : l.length = len) (hc : ∀ i, i < len → cs[off + i]? = (u8s l)[i]?) :
    (convert src dst (.slice (some ⟨w.heap.size, off, none⟩) len cap)).run P (w.alloc (.cells cs t)) = .ok (.string (bstr l)) (w.alloc (.cells cs t)) :=
  conv_row l hs he hd hl fun i hi => by
    rw [cell_of_row (w.alloc (.cells cs t)) w.heap.size (off + i) cs t (0, 0) (heap_alloc_new w _)]
    exact hc i hi
theorem bw_call {w W w' : World} (h : Below w.heap.size w W) (k : Below W.heap.size W w') : Below w.heap.size w w' := h.trans (k.mono h.size)
theorem bw_alloc {w W : World} (h : Below w.heap.size w W) (o : Obj) : Below w.heap.size w (W.alloc o) := h.alloc h.size o
theorem bw_drewN {w W : World} {B : Nat} (h : Below B w W) (n : Nat) : Below B w (W.drewN n) := ⟨h.os, h.tape, h.output, h.size, h.block⟩
theorem block_lt {w : World} {g : Nat} {o : Obj} (h : w.heap[g]? = some o) : g < w.heap.size := by
  rcases Nat.lt_or_ge g w.heap.size with h1 | h1
  · exact h1
  · simp [Array.getElem?_eq_none h1] at h
theorem own_below {w w' : World} {base n size : Nat} {e : TypeId} {v : Value} {xs : List Value} {B : Nat} (h : w.ownsRow base e size v n xs) (hb : Below B w w') (hB : w.heap.size ≤ B) : w'.ownsRow base e size v n xs := by
  refine ⟨h.1, ?_⟩
  rcases h.2 with h2 | ⟨g, cap, cur, hv, hg, hh, r⟩
  · exact .inl h2
  · exact .inr ⟨g, cap, cur, hv, hg, by rw [hb.block g (by have := block_lt hh; omega)]; exact hh, r⟩
theorem own_blk {w : World} {base n size : Nat} {e : TypeId} {v : Value} {xs : List Value} (h : w.ownsRow base e size v n xs) : ∀ k, v.ownBlock = some k → base ≤ k := by
  intro k hk
  rcases h.2 with ⟨rfl, _⟩ | ⟨g, cap, cur, rfl, hg, _⟩
  · simp [Value.ownBlock] at hk
  · simp [Value.ownBlock] at hk; omega
theorem own_nil (w : World) (base : Nat) (e : TypeId) (size : Nat) : w.ownsRow base e size (.slice none 0 0) 0 [] := ⟨by simp, .inl ⟨rfl, rfl⟩⟩
/-- append(s, x) of one value that has just been boxed -/
theorem wpList_app1 {P : Program} {W : World} {ops : Array Oper} {rest : List Oper} {o : Oper} {a : Act} {Q : Exit → Act → World → Prop} (hgd : o.guard = none) (s x : Operand) (t e : TypeId)
    (ho : o.op = .call { callee := .builtin .append, args := #[s, x], argTypes := #[t, t] })
    (ht : P.underlying t = some (.slice e)) (i : TypeInfo) (hi : P.info? e = some i) (z : Value) (hz : i.zero = some z) (hs1 : i.size = 1) (hzs : z.cells.size = 1) (bytes : Nat) (hby : i.bytes = bytes)
    (base : Nat) (v : Value) (n : Nat) (xs : List Value) (hs : a.eval s = v) (hown : W.ownsRow base e 1 v n xs)
    (u : Value) (h1 : u.oneCell' = true) (hx : a.eval x = .slice (some ⟨W.heap.size, 0, none⟩) 1 1) (tt : TypeId) (hn : (n + 1) * bytes ≤ 140737488355328) (hn2 : n + 1 ≤ 1099511627776)
    (w0 : World) (hB : Below w0.heap.size w0 W) (hbase : base ≤ W.heap.size) (hbase2 : w0.heap.size ≤ base)
    (h : ∀ v' w', Hid (w'.ownsRow base e 1 v' (n + 1) (xs ++ [u])) → Hid (Below w0.heap.size w0 w') → wpList P ops Q rest (a.put o.dst v') w') : wpList P ops Q (o :: rest) a (W.alloc (.cells #[u] tt)) := by
  refine wpList_append_own (W.alloc (.cells #[u] tt)) hgd s x t ho base e i z 1 bytes ht hi hz hs1 hby hzs (by decide) v n xs hs (hown.alloc _) ⟨W.heap.size, 0, none⟩ 1 1 [u] hx rfl ?_ ?_ (by unfold maxLen; omega) hn (by simp; omega) ?_
  · intro j y hj
    cases j with
    | zero =>
      simp at hj
      subst hj
      show (W.alloc (.cells #[u] tt)).cell? ⟨W.heap.size, 0, none⟩ = _
      rw [cell_of_row _ W.heap.size 0 _ _ _ (heap_alloc_new W _)]
      rfl
    | succ j => simp at hj
  · intro y hy
    simp at hy
    subst hy
    exact h1
  · intro v' w' hown' hg _
    exact h v' w' hown' ((hB.alloc hB.size _).grown hg (by simp; have := hB.size; omega) (fun k hk => Nat.le_trans hbase2 (own_blk hown k hk.symm.symm)))
/-- the bytes of a number, the highest first, none for 0 -/
def numB (n : Nat) : List UInt8 := if n = 0 then [] else numB (n / 256) ++ [UInt8.ofNat (n % 256)]
termination_by n
decreasing_by omega
def numEnc (n : Nat) : List UInt8 := UInt8.ofNat (numB n).length :: numB n
theorem numB_zero : numB 0 = [] := by unfold numB; simp
theorem numB_pos {n : Nat} (h : 0 < n) : numB n = numB (n / 256) ++ [UInt8.ofNat (n % 256)] := by
  rw [numB, if_neg (by omega)]
theorem numEnc_length (n : Nat) : (numEnc n).length = (numB n).length + 1 := by simp [numEnc]
theorem numB_length_le : ∀ (k n : Nat), n < 256 ^ k → (numB n).length ≤ k
  | 0, n, h => by
    have : n = 0 := by simpa using h
    subst this; simp [numB_zero]
  | k + 1, n, h => by
    by_cases h0 : n = 0
    · subst h0; simp [numB_zero]
    · rw [numB_pos (by omega)]
      have := numB_length_le k (n / 256) (by rw [Nat.pow_succ] at h; exact Nat.div_lt_of_lt_mul (by omega))
      simp; omega
open Go.RowKit
/-- a slice of strings (nil, empty or not) that reads as a list -/
def RdStrs (w : World) (v : Value) (ls : List ByteArray) : Prop :=
  ∃ A c, v = .slice A ls.length c ∧ ls.length ≤ 1099511627776 ∧ (∃ b off, b < w.heap.size ∧ ∀ k (h : k < ls.length), A = some ⟨b, off, none⟩ ∧ w.cell? ⟨b, off + k, none⟩ = some (.string (ls[k]'h)))
theorem RdStrs.below {w w' : World} {v : Value} {ls : List ByteArray} {B : Nat} (h : RdStrs w v ls) (hb : Below B w w') (hB : w.heap.size ≤ B) : RdStrs w' v ls := by
  obtain ⟨A, c, rfl, hl, b, off, hb0, hr⟩ := h
  refine ⟨A, c, rfl, hl, b, off, Nat.lt_of_lt_of_le hb0 hb.size, fun k hk => ⟨(hr k hk).1, ?_⟩⟩
  rw [hb.cell (p := ⟨b, off + k, none⟩) (by show b < B; omega)]
  exact (hr k hk).2
theorem RdStrs.of_own {w : World} {base : Nat} {e : TypeId} {v : Value} {n : Nat} {ls : List ByteArray} (h : w.ownsRow base e 1 v n (ls.map Value.string)) (hn : n ≤ 1099511627776) (h0 : 0 < w.heap.size) : RdStrs w v ls := by
  have hl : ls.length = n := by have := h.1; simpa using this
  rcases h.2 with ⟨rfl, rfl⟩ | ⟨g, cap, cur, rfl, _, hg, _, _, _, ht⟩
  · exact ⟨none, 0, by rw [hl], by omega, 0, 0, h0, fun k hk => by omega⟩
  · refine ⟨_, cap, by rw [hl], by omega, g, 0, ?_, fun k hk => ⟨rfl, ?_⟩⟩
    · rcases Nat.lt_or_ge g w.heap.size with h | h
      · exact h
      · simp [Array.getElem?_eq_none h] at hg
    · rw [cell_of_row w g (0 + k) cur e (0, 0) hg, Nat.zero_add]
      have : (List.take (n * 1) cur.toList)[k]? = (ls.map Value.string)[k]? := by rw [ht]
      rw [List.getElem?_take_of_lt (by omega)] at this
      rw [← Array.getElem?_toList, this]
      simp [List.getElem?_eq_getElem hk]
def tot (ls : List ByteArray) : Nat := (ls.map ByteArray.size).sum
theorem tot_snoc (ls : List ByteArray) (k : Nat) (h : k < ls.length) : tot (ls.take (k + 1)) = tot (ls.take k) + (ls[k]'h).size := by
  unfold tot
  rw [List.take_succ_eq_append_getElem h, List.map_append, List.sum_append]
  simp
theorem tot_le (ls : List ByteArray) (k : Nat) : tot (ls.take k) ≤ tot ls := by
  unfold tot
  conv => rhs; rw [← List.take_append_drop k ls, List.map_append, List.sum_append]
  omega
def flat (ls : List ByteArray) : List UInt8 := (ls.map fun s => s.data.toList).flatten
theorem flat_length (ls : List ByteArray) : (flat ls).length = tot ls := by
  simp [flat, tot, List.length_flatten]
  rfl
theorem flat_snoc (ls : List ByteArray) (k : Nat) (h : k < ls.length) : flat (ls.take (k + 1)) = flat (ls.take k) ++ (ls[k]'h).data.toList := by
  unfold flat
  rw [List.take_succ_eq_append_getElem h, List.map_append, List.flatten_append]
  simp
theorem u8s_one (l : List UInt8) : ∀ v ∈ u8s l, v.oneCell' = true := by
  intro v hv
  simp only [u8s, List.mem_map] at hv
  obtain ⟨b, _, rfl⟩ := hv
  rfl
theorem wpList_copy_str {P : Program} {w : World} {ops : Array Oper} {rest : List Oper} {o : Oper} {a : Act} {Q : Exit → Act → World → Prop} (hgd : o.guard = none) (d s : Operand) (dT sT : TypeId)
    (ho : o.op = .call { callee := .builtin .copy, args := #[d, s], argTypes := #[dT, sT] }) (elem : TypeId) (hu : P.underlying dT = some (.slice elem)) (hsz : (P.info? elem).map (·.size) = some 1)
    (dp : Option Addr) (dLen dCap : Nat) (str : ByteArray) (hd : a.eval d = .slice dp dLen dCap) (hs : a.eval s = .string str)
    (g off : Nat) (cur : List Value) (t : TypeId) (hg : w.heap[g]? = some (.cells cur.toArray t (0, 0))) (hn : str.size ≤ dLen)
    (hpos : 0 < str.size → dp = some ⟨g, off, none⟩)
    (hfit : off + str.size ≤ cur.length) (B : Nat) (w0 : World) (hb : Below B w0 w) (hBg : B ≤ g)
    (h : ∀ w', Hid (w'.heap[g]? = some (.cells (splice cur off (u8s str.data.toList)).toArray t (0, 0))) → Below B w0 w' → wpList P ops Q rest (a.put o.dst (goInt str.size)) w') :
    wpList P ops Q (o :: rest) a w := by
  refine wpList_plain hgd fun K hK => ?_
  by_cases h0 : str.size = 0
  · have hrun := Lib.run_copy_empty_string (P := P) w dT sT o.type elem dp dLen dCap str hu (by cases hq : P.info? elem <;> simp [hq] at hsz ⊢) h0
    have hd0 : str.data.toList = [] := by
      have : str.data.size = 0 := h0
      exact List.eq_nil_of_length_eq_zero (by rw [Array.length_toList]; exact this)
    unfold Oper.wp
    simp [execOp, ho, resolve, invoke, builtin, hd, hs, hrun, Result.andThen]
    refine hK _ _ ?_
    rw [h0] at h
    exact h w (show _ = _ by rw [hd0]; simpa [splice, u8s] using hg) hb
  · obtain rfl := hpos (by omega)
    have hrun := Lib.run_copy_row_string (P := P) w dT sT o.type elem g off dLen dCap str cur.toArray t hu hsz hg hn (by simpa using hfit)
    unfold Oper.wp
    simp [execOp, ho, resolve, invoke, builtin, hd, hs, hrun, Result.andThen]
    refine hK _ _ (h _ (show _ = _ from ?_) (below_setRow hb hBg _))
    rw [setRow_heap w g _ _ t _ hg]
    congr 3
    unfold splice
    rw [u8s_length]
    simp [Lib.byteCells, u8s]
def rkL : List Int := [1116352408, 1899447441, 3049323471, 3921009573, 961987163, 1508970993, 2453635748, 2870763221, 3624381080, 310598401, 607225278, 1426881987, 1925078388, 2162078206, 2614888103, 3248222580, 3835390401, 4022224774, 264347078, 604807628, 770255983, 1249150122, 1555081692, 1996064986, 2554220882, 2821834349, 2952996808, 3210313671, 3336571891, 3584528711, 113926993, 338241895, 666307205, 773529912, 1294757372, 1396182291, 1695183700, 1986661051, 2177026350, 2456956037, 2730485921, 2820302411, 3259730800, 3345764771, 3516065817, 3600352804, 4094571909, 275423344, 430227734, 506948616, 659060556, 883997877, 958139571, 1322822218, 1537002063, 1747873779, 1955562222, 2024104815, 2227730452, 2361852424, 2428436474, 2756734187, 3204031479, 3329325298]
def rot (x : Int) (n : Nat) : Int := bits .or .u32 (x / 2 ^ n) (x * 2 ^ (32 - n) % 4294967296)
def u32v (l : List Int) : List Value := l.map (Value.int .u32)
theorem rkL_length : rkL.length = 64 := rfl
def RoundsAt (w : World) : Prop := 0 < w.heap.size ∧ ∀ i, i < 64 → w.cell? ⟨0, i, none⟩ = some (.int .u32 (rkL.getD i 0))
theorem wrap32_in {n : Int} (h0 : 0 ≤ n) (h1 : n ≤ 4294967295) : IntKind.u32.wrap n = n := by rw [IntKind.wrap_u32]; omega
def by_ (l : List UInt8) (i : Nat) : Int := ((l.getD i 0).toNat : Int)
def word (l : List UInt8) (k : Nat) : Int := by_ l (4 * k) * 16777216 + by_ l (4 * k + 1) * 65536 + by_ l (4 * k + 2) * 256 + by_ l (4 * k + 3)
theorem by_range (l : List UInt8) (i : Nat) : 0 ≤ by_ l i ∧ by_ l i ≤ 255 := by
  unfold by_
  have := (l.getD i 0).toNat_lt
  omega
theorem by_at {s : ByteArray} {i : Nat} (h : i < s.size) : ((s[i]'h).toNat : Int) = by_ s.data.toList i := by
  have h' : i < s.data.toList.length := h
  unfold by_
  rw [List.getD_eq_getElem?_getD, List.getElem?_eq_getElem h']
  rfl
theorem or32 {x y : Int} (i : Nat) (h0 : 0 ≤ x) (h1 : x % 2 ^ i = 0) (h2 : x < 4294967296) (h3 : 0 ≤ y) (h4 : y < 2 ^ i) (h5 : y < 4294967296) : bits .or .u32 x y = x + y :=
  bits_join .u32 32 (by decide) (fun n h0 h1 => by rw [IntKind.wrap_u32]; omega) i x y h0 h1 (by omega) h3 h4 (by omega)
theorem word_or (b0 b1 b2 b3 : Int) (h0 : 0 ≤ b0 ∧ b0 ≤ 255) (h1 : 0 ≤ b1 ∧ b1 ≤ 255) (h2 : 0 ≤ b2 ∧ b2 ≤ 255) (h3 : 0 ≤ b3 ∧ b3 ≤ 255) :
    bits .or .u32 (bits .or .u32 (bits .or .u32 (b0 * 16777216) (b1 * 65536)) (b2 * 256)) b3 = b0 * 16777216 + b1 * 65536 + b2 * 256 + b3 := by
  rw [or32 (x := b0 * 16777216) (y := b1 * 65536) 24 (by omega) (by omega) (by omega) (by omega) (by omega) (by omega)]
  rw [or32 (x := b0 * 16777216 + b1 * 65536) (y := b2 * 256) 16 (by omega) (by omega) (by omega) (by omega) (by omega) (by omega)]
  rw [or32 (x := b0 * 16777216 + b1 * 65536 + b2 * 256) (y := b3) 8 (by omega) (by omega) (by omega) (by omega) (by omega) (by omega)]
theorem word_range (l : List UInt8) (k : Nat) : 0 ≤ word l k ∧ word l k ≤ 4294967295 := by
  unfold word
  have h0 := by_range l (4 * k)
  have h1 := by_range l (4 * k + 1)
  have h2 := by_range l (4 * k + 2)
  have h3 := by_range l (4 * k + 3)
  omega
def zs (n : Nat) : List Int := List.replicate n 0
/-- the words of a block, as they are laid one by one -/
def words (l : List UInt8) : Nat → List Int
  | 0 => []
  | k + 1 => words l k ++ [word l k]
theorem words_length (l : List UInt8) : ∀ k, (words l k).length = k
  | 0 => rfl
  | k + 1 => by simp [words, words_length l k]
theorem set_zs (a : List Int) (k n : Nat) (x : Int) (h : a.length = k) (hk : k < n) : (a ++ zs (n - k)).set k x = (a ++ [x]) ++ zs (n - (k + 1)) := by
  subst h
  rw [show n - a.length = (n - (a.length + 1)) + 1 by omega]
  unfold zs
  rw [List.replicate_succ, List.set_append, if_neg (by omega), Nat.sub_self]
  simp
theorem u32v_length (l : List Int) : (u32v l).length = l.length := by simp [u32v]
theorem u32v_set (l : List Int) (k : Nat) (x : Int) : (u32v l).toArray.setIfInBounds k (.int .u32 x) = (u32v (l.set k x)).toArray := by
  simp [u32v, List.map_set]
theorem u32v_at (l : List Int) (k : Nat) (h : k < l.length) : (u32v l).toArray[k]? = some (.int .u32 (l.getD k 0)) := by
  simp [u32v, List.getElem?_eq_getElem h, List.getD]
def M32 (x : Int) : Int := x % 4294967296
def xr (x y : Int) : Int := bits .xor .u32 x y
def sg0 (x : Int) : Int := xr (xr (rot x 7) (rot x 18)) (x / 8)
def sg1 (x : Int) : Int := xr (xr (rot x 17) (rot x 19)) (x / 1024)
def wnew (l : List Int) (j : Nat) : Int := M32 (M32 (M32 (l.getD j 0 + l.getD (j + 9) 0) + sg0 (l.getD (j + 1) 0)) + sg1 (l.getD (j + 14) 0))
def sched (l : List UInt8) : Nat → List Int
  | 0 => words l 16
  | j + 1 => sched l j ++ [wnew (sched l j) j]
theorem sched_length (l : List UInt8) : ∀ j, (sched l j).length = j + 16
  | 0 => words_length l 16
  | j + 1 => by simp [sched, sched_length l j]
def InR (l : List Int) : Prop := ∀ i, 0 ≤ l.getD i 0 ∧ l.getD i 0 ≤ 4294967295
theorem inR_zs (n : Nat) : InR (zs n) := by
  intro i
  unfold zs
  rw [List.getD_eq_getElem?_getD, List.getElem?_replicate]
  split <;> simp
theorem inR_append {a b : List Int} (ha : InR a) (hb : InR b) : InR (a ++ b) := by
  intro i
  rw [List.getD_eq_getElem?_getD, List.getElem?_append]
  split
  · have := ha i; rwa [List.getD_eq_getElem?_getD] at this
  · have := hb (i - a.length); rwa [List.getD_eq_getElem?_getD] at this
theorem inR_one {x : Int} (h : 0 ≤ x ∧ x ≤ 4294967295) : InR [x] := by
  intro i
  cases i with
  | zero => simpa using h
  | succ i => simp
theorem m32_range (x : Int) : 0 ≤ M32 x ∧ M32 x ≤ 4294967295 := by unfold M32; omega
theorem inR_words (l : List UInt8) : ∀ k, InR (words l k)
  | 0 => inR_zs 0
  | k + 1 => inR_append (inR_words l k) (inR_one (word_range l k))
theorem inR_sched (l : List UInt8) : ∀ j, InR (sched l j)
  | 0 => inR_words l 16
  | j + 1 => inR_append (inR_sched l j) (inR_one (m32_range _))
theorem getD_left {a b : List Int} {i : Nat} (h : i < a.length) : (a ++ b).getD i 0 = a.getD i 0 := by
  rw [List.getD_eq_getElem?_getD, List.getElem?_append_left h, ← List.getD_eq_getElem?_getD]
def rotI (x n : Int) : Int := rot x n.toNat
/-- one round over the eight words -/
def T1 (e f g h : Int) (k w : Int) : Int := h + xr (xr (rotI e 6) (rotI e 11)) (rotI e 25) + xr (bits .and .u32 e f) (bits .and .u32 (xr IntKind.u32.max e) g) + k + w
def T2 (a b c : Int) : Int := xr (xr (rotI a 2) (rotI a 13)) (rotI a 22) + xr (xr (bits .and .u32 a b) (bits .and .u32 a c)) (bits .and .u32 b c)
structure St where
  a : Int
  b : Int
  c : Int
  d : Int
  e : Int
  f : Int
  g : Int
  h : Int
def St.l (s : St) : List Int := [s.a, s.b, s.c, s.d, s.e, s.f, s.g, s.h]
def St.round (s : St) (k w : Int) : St :=
  { a := M32 (T1 s.e s.f s.g s.h k w + T2 s.a s.b s.c), b := s.a, c := s.b, d := s.c, e := M32 (s.d + T1 s.e s.f s.g s.h k w), f := s.e, g := s.f, h := s.g }
def St.rounds (s : St) (W : List Int) : Nat → St
  | 0 => s
  | i + 1 => (St.rounds s W i).round (rkL.getD i 0) (W.getD i 0)
def St.ok (s : St) : Prop := InR s.l
theorem St.l_length (s : St) : s.l.length = 8 := rfl
theorem inR_cons {x : Int} {l : List Int} (h : 0 ≤ x ∧ x ≤ 4294967295) (hl : InR l) : InR (x :: l) := by
  intro i
  cases i with
  | zero => simpa using h
  | succ i => simpa using hl i
theorem inR_nil : InR [] := by intro i; simp
theorem St.ok_mk {a b c d e f g h : Int} (ha : 0 ≤ a ∧ a ≤ 4294967295) (hb : 0 ≤ b ∧ b ≤ 4294967295) (hc : 0 ≤ c ∧ c ≤ 4294967295) (hd : 0 ≤ d ∧ d ≤ 4294967295)
    (he : 0 ≤ e ∧ e ≤ 4294967295) (hf : 0 ≤ f ∧ f ≤ 4294967295) (hg : 0 ≤ g ∧ g ≤ 4294967295) (hh : 0 ≤ h ∧ h ≤ 4294967295) : St.ok ⟨a, b, c, d, e, f, g, h⟩ :=
  inR_cons ha (inR_cons hb (inR_cons hc (inR_cons hd (inR_cons he (inR_cons hf (inR_cons hg (inR_cons hh inR_nil)))))))
theorem St.ok.at {s : St} (h : s.ok) : (0 ≤ s.a ∧ s.a ≤ 4294967295) ∧ (0 ≤ s.b ∧ s.b ≤ 4294967295) ∧ (0 ≤ s.c ∧ s.c ≤ 4294967295) ∧ (0 ≤ s.d ∧ s.d ≤ 4294967295) ∧
    (0 ≤ s.e ∧ s.e ≤ 4294967295) ∧ (0 ≤ s.f ∧ s.f ≤ 4294967295) ∧ (0 ≤ s.g ∧ s.g ≤ 4294967295) ∧ (0 ≤ s.h ∧ s.h ≤ 4294967295) :=
  ⟨h 0, h 1, h 2, h 3, h 4, h 5, h 6, h 7⟩
theorem St.ok.round {s : St} (h : s.ok) (k w : Int) : (s.round k w).ok := by
  obtain ⟨a, b, c, d, e, f, g, i⟩ := h.at
  exact St.ok_mk (m32_range _) a b c (m32_range _) e f g
theorem St.ok.rounds {s : St} (h : s.ok) (W : List Int) : ∀ i, (s.rounds W i).ok
  | 0 => h
  | i + 1 => (h.rounds W i).round _ _
theorem rkL_range : InR rkL := by
  intro i
  by_cases h : i < 64
  · have : ∀ j : Fin 64, 0 ≤ rkL.getD j 0 ∧ rkL.getD j 0 ≤ 4294967295 := by decide
    exact this ⟨i, h⟩
  · rw [List.getD_eq_getElem?_getD, List.getElem?_eq_none (by rw [rkL_length]; omega)]
    simp
def addTo (s v : List Int) : Nat → List Int
  | 0 => s
  | i + 1 => (addTo s v i).set i (M32 ((addTo s v i).getD i 0 + v.getD i 0))
theorem addTo_length (s v : List Int) : ∀ i, (addTo s v i).length = s.length
  | 0 => rfl
  | i + 1 => by simp [addTo, addTo_length s v i]
def St.plus (s v : St) : St := ⟨M32 (s.a + v.a), M32 (s.b + v.b), M32 (s.c + v.c), M32 (s.d + v.d), M32 (s.e + v.e), M32 (s.f + v.f), M32 (s.g + v.g), M32 (s.h + v.h)⟩
theorem addTo_all (s v : St) : addTo s.l v.l 8 = (s.plus v).l := rfl
/-- a block taken in -/
def St.block (s : St) (b : List UInt8) : St := s.plus (s.rounds (sched b 48) 64)
theorem St.block_ok (s : St) (b : List UInt8) : (s.block b).ok := St.ok_mk (m32_range _) (m32_range _) (m32_range _) (m32_range _) (m32_range _) (m32_range _) (m32_range _) (m32_range _)
end Go.Proofs.YtbeooeihedhabaaDoor
