/- cavalcadelaw13.BoxOrders: what the call does. -/
import Derived.Test.YtbeooeihedhabaaDoorBxLaws1
import Derived.Test.YtbeooeihedhabaaDoorRd
namespace Go.Proofs.YtbeooeihedhabaaDoor
open Go.RowKit
set_option maxHeartbeats 4000000
set_option maxRecDepth 4000
/-- what counts stands in the order of the numbers -/
def SeqOk (acc : List (Int × BT)) : Prop := ∀ (i : Nat) (h : i < acc.length), (acc[i]'h).2.seq = i
theorem step_seq {num : Int} {acc : List (Int × BT)} {x : IT} (h : SeqOk acc) : SeqOk (landStep num acc x) := by
 unfold landStep
 split
 ·split
  ·rename_i b hb
   split
   ·rename_i hs
    intro i hi
    by_cases hlt : i < acc.length
    ·rw [List.getElem_append_left hlt]
     exact h i hlt
    ·have hie : i = acc.length := by rw [List.length_append, List.length_singleton] at hi; omega
     subst hie
     rw [List.getElem_append_right (Nat.le_refl _)]
     simpa using hs
   ·exact h
  ·exact h
 ·exact h
theorem land_seq (l : List BK) : SeqOk (land l) :=
 foldl_keep (P := SeqOk) (fun _ b h => foldl_keep (P := SeqOk) (fun _ _ h => step_seq h) b.items _ h) l [] (fun i h => absurd h (Nat.not_lt_zero i))
theorem step_ext {num : Int} {acc : List (Int × BT)} {x : IT} : ∃ X, landStep num acc x = acc ++ X := by
 unfold landStep
 split
 ·split
  ·split
   ·exact ⟨_, rfl⟩
   ·exact ⟨[], by simp⟩
  ·exact ⟨[], by simp⟩
 ·exact ⟨[], by simp⟩
theorem fold_ext {β : Type} {f : List (Int × BT) → β → List (Int × BT)} (hf : ∀ a b, ∃ X, f a b = a ++ X) : ∀ (l : List β) (a : List (Int × BT)), ∃ X, l.foldl f a = a ++ X
 | [], a => ⟨[], by simp⟩
 | b :: l, a => by
  obtain ⟨X, hX⟩ := hf a b
  obtain ⟨Y, hY⟩ := fold_ext hf l (f a b)
  exact ⟨X ++ Y, by rw [List.foldl_cons, hY, hX, List.append_assoc]⟩
/-- with blocks more what counts begins as before -/
theorem land_app (l m : List BK) : ∃ X, land (l ++ m) = land l ++ X := by
 unfold land
 rw [List.foldl_append]
 exact fold_ext (fun a b => fold_ext (fun _ _ => step_ext) b.items a) m _
theorem land_take (l m : List BK) : (land (l ++ m)).take (land l).length = land l ∧ (land l).length ≤ (land (l ++ m)).length := by
 obtain ⟨X, hX⟩ := land_app l m
 rw [hX]
 exact ⟨List.take_left' rfl, by rw [List.length_append]; omega⟩
theorem prs_take (l : List LV) (k : Nat) : prs (l.take k) = (prs l).take k := by unfold prs; rw [List.map_take]
/-- rows, each of its own length -/
theorem flat_atL {α : Type} (f : α → List Value) (sz : Nat) : ∀ (l : List α) (_hf : ∀ a ∈ l, (f a).length = sz) (k : Nat) (h : k < l.length) (j : Nat) (u : Value), (f (l[k]'h))[j]? = some u → (l.flatMap f)[k * sz + j]? = some u ∧ k * sz + j < l.length * sz
 | p :: l, hf, 0, h, j, u, hu => by
  have hp := hf p (List.mem_cons_self ..)
  have hj : j < sz := by
   have := (List.getElem?_eq_some_iff.1 hu).1
   rw [← hp]; exact this
  constructor
  ·rw [List.flatMap_cons, Nat.zero_mul, Nat.zero_add, List.getElem?_append_left (by rw [hp]; exact hj)]
   exact hu
  ·rw [List.length_cons, Nat.zero_mul, Nat.zero_add, Nat.add_mul]; omega
 | p :: l, hf, k + 1, h, j, u, hu => by
  have hp := hf p (List.mem_cons_self ..)
  obtain ⟨h1, h2⟩ := flat_atL f sz l (fun a ha => hf a (List.mem_cons_of_mem _ ha)) k (by simpa using h) j u hu
  constructor
  ·rw [List.flatMap_cons, List.getElem?_append_right (by rw [hp, Nat.add_mul]; omega), hp, show (k + 1) * sz + j - sz = k * sz + j from by rw [Nat.add_mul]; omega]
   exact h1
  ·rw [List.length_cons, Nat.add_mul, Nat.add_mul]; omega
theorem RowsOwnL {α : Type} {f : α → List Value} {sz : Nat} {l : List α} (hf : ∀ a ∈ l, (f a).length = sz) {w : World} {base : Nat} {e : TypeId} {v : Value} (h : w.ownsRow base e sz v l.length (l.flatMap f)) : RdRows w v sz (l.map f) (fun b => base ≤ b) := by
 rcases h.2 with ⟨rfl, h0⟩ | ⟨g, cap, cur, rfl, hb, hg, _, _, _, ht⟩
 ·have : l = [] := List.length_eq_zero_iff.1 h0
  subst this
  exact ⟨none, 0, rfl, fun k hk => absurd hk (Nat.not_lt_zero k)⟩
 ·refine ⟨_, cap, by rw [List.length_map], fun k hk => ⟨g, 0, rfl, block_lt hg, hb, fun j u hu => ?_⟩⟩
  rw [List.getElem_map] at hu
  obtain ⟨h1, h2⟩ := flat_atL f sz l hf k (by simpa using hk) j u hu
  rw [cell_of_row w g (0 + k * sz + j) cur _ (0, 0) hg, Nat.zero_add, ← Array.getElem?_toList, ← List.getElem?_take_of_lt h2, ht]
  exact h1
def bkcs (l : List BK) : List Value := l.flatMap BK.cells
theorem bkcs_len {l : List BK} (h : ∀ b ∈ l, b.parent.length = 32) : (bkcs l).length = l.length * 35 := by
 induction l with
 | nil => rfl
 | cons b l ih =>
  rw [bkcs, List.flatMap_cons, List.length_append, BK.cells_length (h b (List.mem_cons_self ..)), List.length_cons]
  have := ih fun x hx => h x (List.mem_cons_of_mem _ hx)
  rw [bkcs] at this
  omega
/-- the cells of blocks that can be read -/
theorem bks_news {w : World} {q : Option Addr} {n c : Nat} {l : List BK} (h : BksAt w (.slice q n c) l) : ∀ a, q = some a → ∀ j u, (bkcs l)[j]? = some u → w.cell? (a.add j) = some u := by
 intro a ha j u hu
 have hl : ∀ b ∈ l, b.parent.length = 32 := fun b hb => (h.2 b hb).2.1
 have hj : j < l.length * 35 := by rw [← bkcs_len hl]; exact (List.getElem?_eq_some_iff.1 hu).1
 have hk : j / 35 < l.length := Nat.div_lt_of_lt_mul (by omega)
 obtain ⟨b, off, hq, _, _, hc⟩ := h.1.at (j / 35) (by rw [List.length_map]; exact hk)
 rw [ha] at hq
 injection hq with hq
 subst hq
 rw [List.getElem_map] at hc
 have hlen : (BK.cells (l[j / 35]'hk)).length = 35 := BK.cells_length (hl _ (List.getElem_mem hk))
 have hr : j % 35 < 35 := Nat.mod_lt _ (by decide)
 obtain ⟨u', hu'⟩ : ∃ u', (BK.cells (l[j / 35]'hk))[j % 35]? = some u' := ⟨_, List.getElem?_eq_getElem (by rw [hlen]; exact hr)⟩
 have h2 := (flat_atL BK.cells 35 l (fun b hb => BK.cells_length (hl b hb)) (j / 35) hk (j % 35) u' hu').1
 have hjj : j / 35 * 35 + j % 35 = j := by omega
 rw [hjj] at h2
 have hue : u' = u := by
  rw [bkcs] at hu
  rw [h2] at hu
  injection hu
 subst hue
 have h3 := hc (j % 35) u' hu'
 rw [Addr.add_mid, show off + j = off + j / 35 * 35 + j % 35 by omega]
 exact h3
theorem bk_one {w : World} {q : Option Addr} {n c : Nat} {l : List BK} (h : BksAt w (.slice q n c) l) : ∀ u ∈ bkcs l, u.oneCell' = true := by
 intro u hu
 obtain ⟨b, hb, hu⟩ := List.mem_flatMap.1 hu
 refine BK.one ?_ u hu
 obtain ⟨A, c', e, _⟩ := (h.2 b hb).1
 rw [e]
 rfl
section
variable {P : Program}
theorem run_append_some {w : World} (base : Nat) (t ty e : TypeId) (i : TypeInfo) (z : Value) (size bytes : Nat) (ht : P.underlying t = some (.slice e)) (hi : P.info? e = some i) (hz : i.zero = some z)
  (hsize : i.size = size) (hby : i.bytes = bytes) (hzs : z.cells.size = size) (hsz : 0 < size)
  (g n c0 : Nat) (xs : List Value) (hown : w.ownsRow base e size (.slice (some ⟨g, 0, none⟩) n c0) n xs)
  (a : Addr) (m c : Nat) (news : List Value) (hl : news.length = m * size) (hnews : ∀ j u, news[j]? = some u → w.cell? (a.add j) = some u) (h1 : ∀ u ∈ news, u.oneCell' = true)
  (h63 : n + m ≤ maxLen) (hbytes : (n + m) * bytes ≤ 140737488355328) (hbase : base ≤ w.heap.size) :
  ∃ g' c' w', (Builtin.append_ #[t, t] ty #[.slice (some ⟨g, 0, none⟩) n c0, .slice (some a) m c]).run P w = .ok (.slice (some ⟨g', 0, none⟩) (n + m) c') w' ∧ w'.ownsRow base e size (.slice (some ⟨g', 0, none⟩) (n + m) c') (n + m) (xs ++ news) ∧ w.grownBy w' (Value.slice (some ⟨g, 0, none⟩) n c0).ownBlock := by
 obtain ⟨v', w', hr, h2, h3, h4⟩ := run_append_own (P := P) w base t ty e i z size bytes ht hi hz hsize hby hzs hsz _ n xs hown a m c news hl hnews h1 h63 hbytes hbase
 rcases id hown.2 with ⟨h5, _⟩ | ⟨g1, cap, cur, he, hbg, hg, hnc, hcm, hcs, htake⟩
 ·cases h5
 ·injection he with e1 e2 e3
  injection e1 with e1
  injection e1 with e1
  subst e1 e3
  by_cases hroom : n + m ≤ c0
  ·have hr2 := run_append_room (P := P) w t ty e i ht hi g n c0 cur hg a m c news (by rw [hsize]; exact hl) hnews h1 hroom (by rw [hl, hcs, hsize, ← Nat.add_mul]; exact Nat.mul_le_mul_right _ hroom)
   rw [hr] at hr2
   obtain ⟨rfl, -⟩ := Result.ok.inj hr2
   exact ⟨_, _, w', hr, h2, h3⟩
  ·have holds : ∀ j u, xs[j]? = some u → w.cell? ((⟨g, 0, none⟩ : Addr).add j) = some u := hown.cells (g := g) rfl
   have hr2 := run_append_grow (P := P) w t ty e i z ht hi hz ⟨g, 0, none⟩ n c0 xs (by rw [hsize]; exact hown.1) holds a m c news (by rw [hsize]; exact hl) hnews (by omega) (by simp only [maxLen] at h63; omega) (by rw [hby]; exact growslice_fits (by omega) hbytes)
   rw [hr] at hr2
   obtain ⟨rfl, -⟩ := Result.ok.inj hr2
   exact ⟨_, _, w', hr, h2, h3⟩
/-- append of a slice that may be nil -/
theorem wpList_append_any {ops : Array Oper} {rest : List Oper} {o : Oper} {a : Act} {w : World} {Q : Exit → Act → World → Prop} (hgd : o.guard = none) (s x : Operand) (t : TypeId)
  (ho : o.op = .call { callee := .builtin .append, args := #[s, x], argTypes := #[t, t] })
  (base : Nat) (e : TypeId) (i : TypeInfo) (z : Value) (size bytes : Nat) (ht : P.underlying t = some (.slice e)) (hi : P.info? e = some i) (hz : i.zero = some z)
  (hsize : i.size = size) (hby : i.bytes = bytes) (hzs : z.cells.size = size) (hsz : 0 < size)
  (g n c0 : Nat) (xs : List Value) (hs : a.eval s = .slice (some ⟨g, 0, none⟩) n c0) (hown : w.ownsRow base e size (.slice (some ⟨g, 0, none⟩) n c0) n xs)
  (q : Option Addr) (m c : Nat) (news : List Value) (hx : a.eval x = .slice q m c) (hq : q = none → m = 0 ∧ c = 0) (hl : news.length = m * size) (hnews : ∀ ad, q = some ad → ∀ j u, news[j]? = some u → w.cell? (ad.add j) = some u) (h1 : ∀ u ∈ news, u.oneCell' = true)
  (h63 : n + m ≤ maxLen) (hbytes : (n + m) * bytes ≤ 140737488355328) (hbase : base ≤ w.heap.size)
  (h : ∀ g' c' w', w'.ownsRow base e size (.slice (some ⟨g', 0, none⟩) (n + m) c') (n + m) (xs ++ news) → w.grownBy w' (Value.slice (some ⟨g, 0, none⟩) n c0).ownBlock → wpList P ops Q rest (a.put o.dst (.slice (some ⟨g', 0, none⟩) (n + m) c')) w') : wpList P ops Q (o :: rest) a w := by
 cases q with
 | none =>
  obtain ⟨rfl, rfl⟩ := hq rfl
  have hn0 : news = [] := List.length_eq_zero_iff.1 (by rw [hl, Nat.zero_mul])
  subst hn0
  have hn : n ≤ c0 := by
   rcases hown.2 with ⟨h2, _⟩ | ⟨g', cap, cur, he, _, _, hnc, _⟩
   ·cases h2
   ·injection he with e1 e2 e3
    omega
  refine wpList_append_none hgd s x t ho e i ht hi g n c0 hn hs hx ?_
  refine h g c0 w ?_ ⟨rfl, rfl, rfl, Nat.le_refl _, fun _ _ _ => rfl⟩
  rw [List.append_nil]
  exact hown
 | some ad =>
  refine wpList_plain hgd fun _ hK => ?_
  obtain ⟨g', c', w', hr, h2, h3⟩ := run_append_some (P := P) (w := w) base t o.type e i z size bytes ht hi hz hsize hby hzs hsz g n c0 xs hown ad m c news hl (hnews ad rfl) h1 h63 hbytes hbase
  unfold Oper.wp execOp
  simp only [ho, resolve, invoke, builtin, Sem.run_bind, Sem.run_pure, Result.andThen_ok, List.map_toArray, List.map_cons, List.map_nil, hs, hx, hr]
  exact hK _ _ (h g' c' w' h2 h3)
end
theorem row_cap {w : World} {base n size : Nat} {e : TypeId} {v : Value} {xs : List Value} (h : w.ownsRow base e size v n xs) : ∃ q c, v = .slice q n c ∧ n ≤ c := by
 rcases h.2 with ⟨rfl, rfl⟩ | ⟨g, cap, cur, rfl, _, _, hnc, _⟩
 ·exact ⟨_, _, rfl, Nat.le_refl _⟩
 ·exact ⟨_, _, rfl, hnc⟩
/-- blocks in a row of one's own -/
theorem bks_own {w1 w3 : World} {base N : Nat} {v : Value} {l : List BK} (hO : w3.ownsRow base 62 35 v N (bkcs l)) (hN : N = l.length) (hall : ∀ b ∈ l, RdRows w1 b.iv 4 (b.items.map IT.cells) (fun k => k < w1.heap.size) ∧ b.parent.length = 32 ∧ b.items.length ≤ 140737488355328 ∧ ∀ x ∈ b.items, x.text.size ≤ 140737488351232) (hb : Below w1.heap.size w1 w3) : BksAt w3 v l := by
 subst hN
 obtain ⟨A, c, e, r⟩ := RowsOwnL (fun b hb => BK.cells_length (hall b hb).2.1) hO
 refine ⟨⟨A, c, e, fun k hk => ?_⟩, fun b hm => ⟨((hall b hm).1.below hb (fun _ h => h)).mono fun k hk _ => hk, (hall b hm).2⟩⟩
 obtain ⟨b, off, h1, h2, h3, h4⟩ := r k hk
 exact ⟨b, off, h1, h2, h2, h4⟩
theorem bk_zero (w : World) (e : TypeId) (size : Nat) : (w.alloc (.cells #[] e)).ownsRow w.heap.size e size (.slice (some ⟨w.heap.size, 0, none⟩) 0 0) 0 [] :=
 ⟨by simp, .inr ⟨_, 0, #[], rfl, Nat.le_refl _, heap_alloc_new w _, Nat.le_refl _, Nat.zero_le _, by simp, by simp⟩⟩
-- A
theorem boxOrders_any (q : Option Addr) (c : Nat) (l : List BK) (q2 : Option Addr) (c2 : Nat) (more : List BK) (w : World) (h : BksAt w (.slice q l.length c) l) (hlc : l.length ≤ c) (hlen : l.length ≤ 140737488351232) (hqn : q = none → c = 0)
  (h2 : BksAt w (.slice q2 more.length c2) more) (hlc2 : more.length ≤ c2) (hlen2 : more.length ≤ 140737488351232) (hqn2 : q2 = none → c2 = 0) (hR : RoundsAt w) :
  Calls Tryd.prog 7 #[.slice q l.length c, .slice q2 more.length c2] w fun e w' => e = .returned (.bool true) ∧ Below w.heap.size w w' := by
 obtain ⟨iB, hiB, hzB0, hzB1, hzB2⟩ := info_parts block_zero
 have HR := Lib.hid hR
 obtain ⟨n, hn⟩ : ∃ n, n = l.length := ⟨_, rfl⟩
 obtain ⟨m, hm⟩ : ∃ m, m = more.length := ⟨_, rfl⟩
 rw [← hn] at h hlc hlen ⊢
 rw [← hm] at h2 hlc2 hlen2 ⊢
 have HL : Hid (∀ (q : Option Addr) (N c : Nat) (bs : List BK) (W : World), N = bs.length → N ≤ 9223372036854775807 → BksAt W (.slice q N c) bs → RoundsAt W → Calls Tryd.prog 17 #[.slice q N c] W fun e w' => ∃ v l, e = .returned v ∧ prs l = land bs ∧ LdAt W.heap.size W w' v l) := show ∀ (q : Option Addr) (N c : Nat) (bs : List BK) (W : World), _ from fun q N c bs W hN hNl hW hRW => by
  subst hN
  exact bxland_any q c bs W hW hNl hRW
 by_cases h15 : 15 < n
 ·by_cases h152 : 15 < m
  ·skip
   have d0 : decide ((15 : Int) < n) = true := decide_eq_true (by omega)
   have d0c : (15 : Int) ≤ c := by omega
   have hN1 : 15 = (l.take 15).length := by rw [List.length_take]; omega
   have h1 := h.take 15 c
   rw [← hN1] at h1
   have HA := Lib.hid h1
   have d1 : decide ((15 : Int) < m) = true := decide_eq_true (by omega)
   have d1c : (15 : Int) ≤ c2 := by omega
   have hN2 : 15 = (more.take 15).length := by rw [List.length_take]; omega
   have h3 := h2.take 15 c2
   rw [← hN2] at h3
   have HA2 := Lib.hid h3
   clear h h2 h1 h3 hR hn hm h15 h152 hlen hlen2
   generalize l.take 15 = bs1 at *
   generalize more.take 15 = bs2 at *
   have HN1 : Hid (15 = bs1.length) := hN1
   have HN2 : Hid (15 = bs2.length) := hN2
   have HQ1 : Hid (q = none → 15 = 0 ∧ c = 0) := show _ → _ from fun e => by have := hqn e; omega
   have HQ2 : Hid (q2 = none → 15 = 0 ∧ c2 = 0) := show _ → _ from fun e => by have := hqn2 e; omega
   have HP1 : Hid (∀ b ∈ bs1, b.parent.length = 32) := show ∀ b ∈ bs1, _ from fun b hb => (HA.out.2 b hb).2.1
   have HP2 : Hid (∀ b ∈ bs2, b.parent.length = 32) := show ∀ b ∈ bs2, _ from fun b hb => (HA2.out.2 b hb).2.1
   have HLN1 : Hid ((bkcs bs1).length = 15 * 35) := show _ = _ from by rw [HN1.out]; exact bkcs_len HP1.out
   have HLN2 : Hid ((bkcs bs2).length = 15 * 35) := show _ = _ from by rw [HN2.out]; exact bkcs_len HP2.out
   clear hqn hqn2 hN1 hN2
   go_enter Tryd.func7, Tryd.ntmps7
   go_wp2_with fail
   refine (HL.out q 15 c bs1 w HN1.out (by omega) HA.out HR.out).mono ?_
   rintro e w1 ⟨va, la, rfl, hpa, hda⟩
   have HB1 := Lib.hid hda.b
   have HA1 := Lib.hid (HA.out.below hda.b)
   have HA21 := Lib.hid (HA2.out.below hda.b)
   have HS1 := Lib.hid (hda.ls (prs_parts hpa))
   have HPA := Lib.hid hpa
   obtain ⟨qa, ca, hva, hac⟩ := row_cap hda.own
   subst hva
   obtain ⟨na, hna⟩ : ∃ na, na = la.length := ⟨_, rfl⟩
   rw [← hna] at HS1 hac ⊢
   have HNA := Lib.hid hna
   have hna40 : na ≤ 1099511627777 := by
    have h1 := land_len bs1
    rw [← hpa, prs_len] at h1
    omega
   clear hpa hda hna
   have hO0 := bk_zero w1 62 35
   have hB0 := bw_alloc (Below.refl w1.heap.size w1) (.cells #[] 62)
   have HA1z := Lib.hid (HA1.out.below hB0)
   have HA21z := Lib.hid (HA21.out.below hB0)
   have HBZ := Lib.hid hB0
   have hsz0 : w1.heap.size ≤ (w1.alloc (.cells #[] 62)).heap.size := hB0.size
   clear hB0
   go_wp2_with (first
    | ((at_builtin; refine wpList_append_any rfl (.tmp 21) (.tmp 22) 34 rfl w1.heap.size 62 iB (.agg zlBlk.toArray) 35 72 Tryd.underlying34 hiB hzB0 hzB1 hzB2 rfl (by decide) w1.heap.size 0 0 [] rfl hO0 q 15 c (bkcs bs1) rfl HQ1.out HLN1.out (bks_news HA1z.out) (bk_one HA1z.out) (by unfold maxLen; omega) (by omega) hsz0 ?_); intro g1 c1 w2 hO1 hg1; rw [Nat.zero_add, List.nil_append] at hO1; have hB1x := HBZ.out.grown hg1 hsz0 (fun j hj => own_blk hO0 j hj); have HA22 := Lib.hid (HA21.out.below hB1x); have hsz2 := hB1x.size)
    | ((at_builtin; refine wpList_append_any rfl (.tmp 23) (.tmp 24) 34 rfl w1.heap.size 62 iB (.agg zlBlk.toArray) 35 72 Tryd.underlying34 hiB hzB0 hzB1 hzB2 rfl (by decide) g1 15 c1 (bkcs bs1) rfl hO1 q2 15 c2 (bkcs bs2) rfl HQ2.out HLN2.out (bks_news HA22.out) (bk_one HA22.out) (by unfold maxLen; omega) (by omega) hsz2 ?_); intro g2 cc2 w3 hO2 hg2; have hB2x := hB1x.grown hg2 hsz2 (fun j hj => own_blk hO1 j hj)))
   have HO2 := Lib.hid hO2
   have hB3 : Below w1.heap.size w1 w3 := hB2x
   have HBK := Lib.hid (show BksAt w3 (.slice (some ⟨g2, 0, none⟩) (15 + 15) cc2) (bs1 ++ bs2) from bks_own (by rw [show bkcs (bs1 ++ bs2) = bkcs bs1 ++ bkcs bs2 from List.flatMap_append ..]; exact HO2.out) (by rw [List.length_append, ← HN1.out, ← HN2.out]) (fun b hb => by
    rcases List.mem_append.1 hb with hb | hb
    ·exact HA1.out.2 b hb
    ·exact HA21.out.2 b hb) hB3)
   have HB3 := Lib.hid (bw_call HB1.out hB3)
   have HA3 := Lib.hid (HA1.out.below hB3)
   have HS3 := Lib.hid (HS1.out.below hB3)
   clear hO0 hO1 hO2 hg1 hg2 hB1x hB2x hsz0 hsz2 HA22 HBZ HA1z HA21z hB3
   refine (HL.out (some ⟨g2, 0, none⟩) (15 + 15) cc2 (bs1 ++ bs2) w3 (by rw [List.length_append, ← HN1.out, ← HN2.out]) (by omega) HBK.out (HR.out.below HB3.out HR.out.1)).mono ?_
   rintro e w4 ⟨vb, lb, rfl, hpb, hdb⟩
   have HB4 := Lib.hid (bw_call HB3.out hdb.b)
   have HA4 := Lib.hid (HA3.out.below hdb.b)
   have HS4 := Lib.hid (HS3.out.below hdb.b)
   have HSB4 := Lib.hid (hdb.ls (prs_parts hpb))
   obtain ⟨qb, cb, hvb, hbc⟩ := row_cap hdb.own
   subst hvb
   obtain ⟨nb, hnb⟩ : ∃ nb, nb = lb.length := ⟨_, rfl⟩
   rw [← hnb] at HSB4 hbc ⊢
   have HNB := Lib.hid hnb
   have hab : na ≤ nb := by
    have h1 := (land_take bs1 bs2).2
    rw [← HPA.out, ← hpb, prs_len, prs_len, ← HNA.out, ← hnb] at h1
    exact h1
   have hnb40 : nb ≤ 1099511627777 := by
    have h1 := land_len (bs1 ++ bs2)
    rw [← hpb, prs_len] at h1
    omega
   have HEQ : Hid (decide (prs la = prs (lb.take na)) = true) := show _ = _ from decide_eq_true (by
    have h1 := (land_take bs1 bs2).1
    rw [← HPA.out, ← hpb, prs_len, ← HNA.out] at h1
    rw [prs_take, h1])
   have HSQ : Hid (SeqOk (prs lb)) := show SeqOk _ from by rw [hpb]; exact land_seq _
   clear hpb hdb hnb
   go_wp2_with fail
   refine (awake13_any _ (HR.out.below HB4.out HR.out.1)).mono ?_
   rintro e w5 ⟨rfl, hb5⟩
   have HB5 := Lib.hid (bw_call HB4.out hb5)
   have HA5 := Lib.hid (HA4.out.below hb5)
   have HS5 := Lib.hid (HS4.out.below hb5)
   have HSB5 := Lib.hid (HSB4.out.below hb5)
   clear hb5
   have d5 : decide ((nb : Int) < na) = false := decide_eq_false (by omega)
   have d5' : decide (nb < na) = false := decide_eq_false (by omega)
   have f1 : (na : Int) ≤ cb := by omega
   have f1' : na ≤ cb := by omega
   have f0 : (0 : Int) ≤ na := by omega
   have HTK : Hid ((lb.take na).length = na) := show _ = _ from by rw [List.length_take, ← HNB.out]; omega
   have HSM : Hid (Calls Tryd.prog 16 #[.slice qa na ca, .slice qb na cb] w5 fun e w' => e = .returned (.bool true) ∧ Below w5.heap.size w5 w') := show Calls _ _ _ _ _ from by
    have h1 := HSB5.out.take na cb
    rw [HTK.out] at h1
    have h := rsame13_any la (lb.take na) _ _ w5 HS5.out h1 (by rw [← HNA.out]; omega)
    rw [HEQ.out] at h
    exact h
   go_wp2_with fail
   refine HSM.out.mono ?_
   rintro e w6 ⟨rfl, hb6⟩
   have HB6 := Lib.hid (bw_call HB5.out hb6)
   have HA6 := Lib.hid (HA5.out.below hb6)
   have HS6 := Lib.hid (HS5.out.below hb6)
   have HSB6 := Lib.hid (HSB5.out.below hb6)
   clear hb6
   go_wp2_with fail
   go_loopw [7] (fun i_ wr => ∃ j : Nat, i_ = .int .i64 j ∧ j ≤ nb ∧ wr = w6) (fun i_ _ => match i_ with | .int _ k => nb - k.toNat | _ => 0)
   case atStart => exact ⟨0, rfl, Nat.zero_le _, rfl⟩
   case round =>
    obtain ⟨j, rfl, hjn, rfl⟩ := hrel
    by_cases hlt : j < nb
    ·have hjb : j < lb.length := by have := HNB.out; omega
     obtain ⟨gb, ob, hqb, _, -, hcb⟩ := HSB6.out.1.at j (by rw [List.length_map]; exact hjb)
     subst hqb
     rw [List.getElem_map] at hcb
     have hsq : (lb[j]'hjb).b.seq = j := by
      have h := HSQ.out j (by rw [prs_len]; exact hjb)
      simpa [prs] using h
     have k1 : wr.cell? ⟨gb, ob + j * 5 + 1, none⟩ = some (.int .i64 j) := by
      have h := hcb 1 _ rfl
      rw [hsq] at h
      exact h
     have e0 : (0 : Int) ≤ j := by omega
     have e1 : (j : Int) < nb := by omega
     have e2 : ((j : Int) != j) = false := bne_self_eq_false _
     clear hcb hsq
     go_wp2_with fail
     go_roundw
     case rel => exact ⟨j + 1, by go_num, hlt, trivial⟩
     case measure => simp; omega
    ·obtain rfl : j = nb := by omega
     have e1 : decide ((j : Int) < j) = false := decide_eq_false (by omega)
     have hP0 := bk_zero wr 62 35
     have hB0 := bw_alloc (Below.refl wr.heap.size wr) (.cells #[] 62)
     have HA6z := Lib.hid (HA6.out.below hB0)
     have HBZ := Lib.hid hB0
     have hsz0 : wr.heap.size ≤ (wr.alloc (.cells #[] 62)).heap.size := hB0.size
     clear hB0
     go_wp2_with (first
      | ((at_builtin; refine wpList_append_any rfl (.tmp 59) (.tmp 60) 34 rfl wr.heap.size 62 iB (.agg zlBlk.toArray) 35 72 Tryd.underlying34 hiB hzB0 hzB1 hzB2 rfl (by decide) wr.heap.size 0 0 [] rfl hP0 q 15 c (bkcs bs1) rfl HQ1.out HLN1.out (bks_news HA6z.out) (bk_one HA6z.out) (by unfold maxLen; omega) (by omega) hsz0 ?_); intro g3 c3 w7 hO1 hg1; rw [Nat.zero_add, List.nil_append] at hO1; have hB1x := HBZ.out.grown hg1 hsz0 (fun j hj => own_blk hP0 j hj); have HA7 := Lib.hid (HA6.out.below hB1x); have hsz2 := hB1x.size)
      | ((at_builtin; refine wpList_append_any rfl (.tmp 61) (.tmp 62) 34 rfl wr.heap.size 62 iB (.agg zlBlk.toArray) 35 72 Tryd.underlying34 hiB hzB0 hzB1 hzB2 rfl (by decide) g3 15 c3 (bkcs bs1) rfl hO1 q 15 c (bkcs bs1) rfl HQ1.out HLN1.out (bks_news HA7.out) (bk_one HA7.out) (by unfold maxLen; omega) (by omega) hsz2 ?_); intro g4 c4 w8 hO2 hg2; have hB2x := hB1x.grown hg2 hsz2 (fun j hj => own_blk hO1 j hj)))
     have HO2 := Lib.hid hO2
     have hB3 : Below wr.heap.size wr w8 := hB2x
     have HBK := Lib.hid (show BksAt w8 (.slice (some ⟨g4, 0, none⟩) (15 + 15) c4) (bs1 ++ bs1) from bks_own (by rw [show bkcs (bs1 ++ bs1) = bkcs bs1 ++ bkcs bs1 from List.flatMap_append ..]; exact HO2.out) (by rw [List.length_append, ← HN1.out]) (fun b hb => by
      rcases List.mem_append.1 hb with hb | hb
      ·exact HA6.out.2 b hb
      ·exact HA6.out.2 b hb) hB3)
     have HB8 := Lib.hid (bw_call HB6.out hB3)
     have HS8 := Lib.hid (HS6.out.below hB3)
     clear hP0 hO1 hO2 hg1 hg2 hB1x hB2x hsz0 hsz2 HA7 HBZ HA6z hB3
     refine (HL.out (some ⟨g4, 0, none⟩) (15 + 15) c4 (bs1 ++ bs1) w8 (by rw [List.length_append, ← HN1.out]) (by omega) HBK.out (HR.out.below HB8.out HR.out.1)).mono ?_
     rintro e w9 ⟨vc, lc, rfl, hpc, hdc⟩
     have HB9 := Lib.hid (bw_call HB8.out hdc.b)
     have HS9 := Lib.hid (HS8.out.below hdc.b)
     have HSC9 := Lib.hid (hdc.ls (prs_parts hpc))
     obtain ⟨qc, cc, hvc, hcc⟩ := row_cap hdc.own
     subst hvc
     obtain ⟨nc, hnc⟩ : ∃ nc, nc = lc.length := ⟨_, rfl⟩
     rw [← hnc] at HSC9 hcc ⊢
     have HNC := Lib.hid hnc
     have hac2 : na ≤ nc := by
      have h1 := (land_take bs1 bs1).2
      rw [← HPA.out, ← hpc, prs_len, prs_len, ← HNA.out, ← hnc] at h1
      exact h1
     have HEQ2 : Hid (decide (prs la = prs (lc.take na)) = true) := show _ = _ from decide_eq_true (by
      have h1 := (land_take bs1 bs1).1
      rw [← HPA.out, ← hpc, prs_len, ← HNA.out] at h1
      rw [prs_take, h1])
     clear hpc hdc hnc
     have f2 : (na : Int) ≤ nc := by omega
     have f3 : (na : Int) ≤ cc := by omega
     have HTK2 : Hid ((lc.take na).length = na) := show _ = _ from by rw [List.length_take, ← HNC.out]; omega
     have HSM2 : Hid (Calls Tryd.prog 16 #[.slice qa na ca, .slice qc na cc] w9 fun e w' => e = .returned (.bool true) ∧ Below w9.heap.size w9 w') := show Calls _ _ _ _ _ from by
      have h1 := HSC9.out.take na cc
      rw [HTK2.out] at h1
      have h := rsame13_any la (lc.take na) _ _ w9 HS9.out h1 (by rw [← HNA.out]; omega)
      rw [HEQ2.out] at h
      exact h
     go_wp2_with fail
     refine HSM2.out.mono ?_
     rintro e w10 ⟨rfl, hb10⟩
     have HB10 := Lib.hid (bw_call HB9.out hb10)
     clear hb10
     go_wp2_with fail
     go_ret
     exact ⟨rfl, HB10.out⟩
  ·skip
   have d0 : decide ((15 : Int) < n) = true := decide_eq_true (by omega)
   have d0c : (15 : Int) ≤ c := by omega
   have hN1 : 15 = (l.take 15).length := by rw [List.length_take]; omega
   have h1 := h.take 15 c
   rw [← hN1] at h1
   have HA := Lib.hid h1
   have d1 : decide ((15 : Int) < m) = false := decide_eq_false (by omega)
   have hN2 := hm
   have h3 := h2
   have HA2 := Lib.hid h2
   have hmc : m ≤ 15 := by omega
   clear h h2 h1 h3 hR hn hm h15 h152 hlen hlen2
   generalize l.take 15 = bs1 at *
   generalize more = bs2 at *
   have HN1 : Hid (15 = bs1.length) := hN1
   have HN2 : Hid (m = bs2.length) := hN2
   have HQ1 : Hid (q = none → 15 = 0 ∧ c = 0) := show _ → _ from fun e => by have := hqn e; omega
   have HQ2 : Hid (q2 = none → m = 0 ∧ c2 = 0) := show _ → _ from fun e => by have := hqn2 e; omega
   have HP1 : Hid (∀ b ∈ bs1, b.parent.length = 32) := show ∀ b ∈ bs1, _ from fun b hb => (HA.out.2 b hb).2.1
   have HP2 : Hid (∀ b ∈ bs2, b.parent.length = 32) := show ∀ b ∈ bs2, _ from fun b hb => (HA2.out.2 b hb).2.1
   have HLN1 : Hid ((bkcs bs1).length = 15 * 35) := show _ = _ from by rw [HN1.out]; exact bkcs_len HP1.out
   have HLN2 : Hid ((bkcs bs2).length = m * 35) := show _ = _ from by rw [HN2.out]; exact bkcs_len HP2.out
   clear hqn hqn2 hN1 hN2
   go_enter Tryd.func7, Tryd.ntmps7
   go_wp2_with fail
   refine (HL.out q 15 c bs1 w HN1.out (by omega) HA.out HR.out).mono ?_
   rintro e w1 ⟨va, la, rfl, hpa, hda⟩
   have HB1 := Lib.hid hda.b
   have HA1 := Lib.hid (HA.out.below hda.b)
   have HA21 := Lib.hid (HA2.out.below hda.b)
   have HS1 := Lib.hid (hda.ls (prs_parts hpa))
   have HPA := Lib.hid hpa
   obtain ⟨qa, ca, hva, hac⟩ := row_cap hda.own
   subst hva
   obtain ⟨na, hna⟩ : ∃ na, na = la.length := ⟨_, rfl⟩
   rw [← hna] at HS1 hac ⊢
   have HNA := Lib.hid hna
   have hna40 : na ≤ 1099511627777 := by
    have h1 := land_len bs1
    rw [← hpa, prs_len] at h1
    omega
   clear hpa hda hna
   have hO0 := bk_zero w1 62 35
   have hB0 := bw_alloc (Below.refl w1.heap.size w1) (.cells #[] 62)
   have HA1z := Lib.hid (HA1.out.below hB0)
   have HA21z := Lib.hid (HA21.out.below hB0)
   have HBZ := Lib.hid hB0
   have hsz0 : w1.heap.size ≤ (w1.alloc (.cells #[] 62)).heap.size := hB0.size
   clear hB0
   go_wp2_with (first
    | ((at_builtin; refine wpList_append_any rfl (.tmp 21) (.tmp 22) 34 rfl w1.heap.size 62 iB (.agg zlBlk.toArray) 35 72 Tryd.underlying34 hiB hzB0 hzB1 hzB2 rfl (by decide) w1.heap.size 0 0 [] rfl hO0 q 15 c (bkcs bs1) rfl HQ1.out HLN1.out (bks_news HA1z.out) (bk_one HA1z.out) (by unfold maxLen; omega) (by omega) hsz0 ?_); intro g1 c1 w2 hO1 hg1; rw [Nat.zero_add, List.nil_append] at hO1; have hB1x := HBZ.out.grown hg1 hsz0 (fun j hj => own_blk hO0 j hj); have HA22 := Lib.hid (HA21.out.below hB1x); have hsz2 := hB1x.size)
    | ((at_builtin; refine wpList_append_any rfl (.tmp 23) (.tmp 24) 34 rfl w1.heap.size 62 iB (.agg zlBlk.toArray) 35 72 Tryd.underlying34 hiB hzB0 hzB1 hzB2 rfl (by decide) g1 15 c1 (bkcs bs1) rfl hO1 q2 m c2 (bkcs bs2) rfl HQ2.out HLN2.out (bks_news HA22.out) (bk_one HA22.out) (by unfold maxLen; omega) (by omega) hsz2 ?_); intro g2 cc2 w3 hO2 hg2; have hB2x := hB1x.grown hg2 hsz2 (fun j hj => own_blk hO1 j hj)))
   have HO2 := Lib.hid hO2
   have hB3 : Below w1.heap.size w1 w3 := hB2x
   have HBK := Lib.hid (show BksAt w3 (.slice (some ⟨g2, 0, none⟩) (15 + m) cc2) (bs1 ++ bs2) from bks_own (by rw [show bkcs (bs1 ++ bs2) = bkcs bs1 ++ bkcs bs2 from List.flatMap_append ..]; exact HO2.out) (by rw [List.length_append, ← HN1.out, ← HN2.out]) (fun b hb => by
    rcases List.mem_append.1 hb with hb | hb
    ·exact HA1.out.2 b hb
    ·exact HA21.out.2 b hb) hB3)
   have HB3 := Lib.hid (bw_call HB1.out hB3)
   have HA3 := Lib.hid (HA1.out.below hB3)
   have HS3 := Lib.hid (HS1.out.below hB3)
   clear hO0 hO1 hO2 hg1 hg2 hB1x hB2x hsz0 hsz2 HA22 HBZ HA1z HA21z hB3
   refine (HL.out (some ⟨g2, 0, none⟩) (15 + m) cc2 (bs1 ++ bs2) w3 (by rw [List.length_append, ← HN1.out, ← HN2.out]) (by omega) HBK.out (HR.out.below HB3.out HR.out.1)).mono ?_
   rintro e w4 ⟨vb, lb, rfl, hpb, hdb⟩
   have HB4 := Lib.hid (bw_call HB3.out hdb.b)
   have HA4 := Lib.hid (HA3.out.below hdb.b)
   have HS4 := Lib.hid (HS3.out.below hdb.b)
   have HSB4 := Lib.hid (hdb.ls (prs_parts hpb))
   obtain ⟨qb, cb, hvb, hbc⟩ := row_cap hdb.own
   subst hvb
   obtain ⟨nb, hnb⟩ : ∃ nb, nb = lb.length := ⟨_, rfl⟩
   rw [← hnb] at HSB4 hbc ⊢
   have HNB := Lib.hid hnb
   have hab : na ≤ nb := by
    have h1 := (land_take bs1 bs2).2
    rw [← HPA.out, ← hpb, prs_len, prs_len, ← HNA.out, ← hnb] at h1
    exact h1
   have hnb40 : nb ≤ 1099511627777 := by
    have h1 := land_len (bs1 ++ bs2)
    rw [← hpb, prs_len] at h1
    omega
   have HEQ : Hid (decide (prs la = prs (lb.take na)) = true) := show _ = _ from decide_eq_true (by
    have h1 := (land_take bs1 bs2).1
    rw [← HPA.out, ← hpb, prs_len, ← HNA.out] at h1
    rw [prs_take, h1])
   have HSQ : Hid (SeqOk (prs lb)) := show SeqOk _ from by rw [hpb]; exact land_seq _
   clear hpb hdb hnb
   go_wp2_with fail
   refine (awake13_any _ (HR.out.below HB4.out HR.out.1)).mono ?_
   rintro e w5 ⟨rfl, hb5⟩
   have HB5 := Lib.hid (bw_call HB4.out hb5)
   have HA5 := Lib.hid (HA4.out.below hb5)
   have HS5 := Lib.hid (HS4.out.below hb5)
   have HSB5 := Lib.hid (HSB4.out.below hb5)
   clear hb5
   have d5 : decide ((nb : Int) < na) = false := decide_eq_false (by omega)
   have d5' : decide (nb < na) = false := decide_eq_false (by omega)
   have f1 : (na : Int) ≤ cb := by omega
   have f1' : na ≤ cb := by omega
   have f0 : (0 : Int) ≤ na := by omega
   have HTK : Hid ((lb.take na).length = na) := show _ = _ from by rw [List.length_take, ← HNB.out]; omega
   have HSM : Hid (Calls Tryd.prog 16 #[.slice qa na ca, .slice qb na cb] w5 fun e w' => e = .returned (.bool true) ∧ Below w5.heap.size w5 w') := show Calls _ _ _ _ _ from by
    have h1 := HSB5.out.take na cb
    rw [HTK.out] at h1
    have h := rsame13_any la (lb.take na) _ _ w5 HS5.out h1 (by rw [← HNA.out]; omega)
    rw [HEQ.out] at h
    exact h
   go_wp2_with fail
   refine HSM.out.mono ?_
   rintro e w6 ⟨rfl, hb6⟩
   have HB6 := Lib.hid (bw_call HB5.out hb6)
   have HA6 := Lib.hid (HA5.out.below hb6)
   have HS6 := Lib.hid (HS5.out.below hb6)
   have HSB6 := Lib.hid (HSB5.out.below hb6)
   clear hb6
   go_wp2_with fail
   go_loopw [7] (fun i_ wr => ∃ j : Nat, i_ = .int .i64 j ∧ j ≤ nb ∧ wr = w6) (fun i_ _ => match i_ with | .int _ k => nb - k.toNat | _ => 0)
   case atStart => exact ⟨0, rfl, Nat.zero_le _, rfl⟩
   case round =>
    obtain ⟨j, rfl, hjn, rfl⟩ := hrel
    by_cases hlt : j < nb
    ·have hjb : j < lb.length := by have := HNB.out; omega
     obtain ⟨gb, ob, hqb, _, -, hcb⟩ := HSB6.out.1.at j (by rw [List.length_map]; exact hjb)
     subst hqb
     rw [List.getElem_map] at hcb
     have hsq : (lb[j]'hjb).b.seq = j := by
      have h := HSQ.out j (by rw [prs_len]; exact hjb)
      simpa [prs] using h
     have k1 : wr.cell? ⟨gb, ob + j * 5 + 1, none⟩ = some (.int .i64 j) := by
      have h := hcb 1 _ rfl
      rw [hsq] at h
      exact h
     have e0 : (0 : Int) ≤ j := by omega
     have e1 : (j : Int) < nb := by omega
     have e2 : ((j : Int) != j) = false := bne_self_eq_false _
     clear hcb hsq
     go_wp2_with fail
     go_roundw
     case rel => exact ⟨j + 1, by go_num, hlt, trivial⟩
     case measure => simp; omega
    ·obtain rfl : j = nb := by omega
     have e1 : decide ((j : Int) < j) = false := decide_eq_false (by omega)
     have hP0 := bk_zero wr 62 35
     have hB0 := bw_alloc (Below.refl wr.heap.size wr) (.cells #[] 62)
     have HA6z := Lib.hid (HA6.out.below hB0)
     have HBZ := Lib.hid hB0
     have hsz0 : wr.heap.size ≤ (wr.alloc (.cells #[] 62)).heap.size := hB0.size
     clear hB0
     go_wp2_with (first
      | ((at_builtin; refine wpList_append_any rfl (.tmp 59) (.tmp 60) 34 rfl wr.heap.size 62 iB (.agg zlBlk.toArray) 35 72 Tryd.underlying34 hiB hzB0 hzB1 hzB2 rfl (by decide) wr.heap.size 0 0 [] rfl hP0 q 15 c (bkcs bs1) rfl HQ1.out HLN1.out (bks_news HA6z.out) (bk_one HA6z.out) (by unfold maxLen; omega) (by omega) hsz0 ?_); intro g3 c3 w7 hO1 hg1; rw [Nat.zero_add, List.nil_append] at hO1; have hB1x := HBZ.out.grown hg1 hsz0 (fun j hj => own_blk hP0 j hj); have HA7 := Lib.hid (HA6.out.below hB1x); have hsz2 := hB1x.size)
      | ((at_builtin; refine wpList_append_any rfl (.tmp 61) (.tmp 62) 34 rfl wr.heap.size 62 iB (.agg zlBlk.toArray) 35 72 Tryd.underlying34 hiB hzB0 hzB1 hzB2 rfl (by decide) g3 15 c3 (bkcs bs1) rfl hO1 q 15 c (bkcs bs1) rfl HQ1.out HLN1.out (bks_news HA7.out) (bk_one HA7.out) (by unfold maxLen; omega) (by omega) hsz2 ?_); intro g4 c4 w8 hO2 hg2; have hB2x := hB1x.grown hg2 hsz2 (fun j hj => own_blk hO1 j hj)))
     have HO2 := Lib.hid hO2
     have hB3 : Below wr.heap.size wr w8 := hB2x
     have HBK := Lib.hid (show BksAt w8 (.slice (some ⟨g4, 0, none⟩) (15 + 15) c4) (bs1 ++ bs1) from bks_own (by rw [show bkcs (bs1 ++ bs1) = bkcs bs1 ++ bkcs bs1 from List.flatMap_append ..]; exact HO2.out) (by rw [List.length_append, ← HN1.out]) (fun b hb => by
      rcases List.mem_append.1 hb with hb | hb
      ·exact HA6.out.2 b hb
      ·exact HA6.out.2 b hb) hB3)
     have HB8 := Lib.hid (bw_call HB6.out hB3)
     have HS8 := Lib.hid (HS6.out.below hB3)
     clear hP0 hO1 hO2 hg1 hg2 hB1x hB2x hsz0 hsz2 HA7 HBZ HA6z hB3
     refine (HL.out (some ⟨g4, 0, none⟩) (15 + 15) c4 (bs1 ++ bs1) w8 (by rw [List.length_append, ← HN1.out]) (by omega) HBK.out (HR.out.below HB8.out HR.out.1)).mono ?_
     rintro e w9 ⟨vc, lc, rfl, hpc, hdc⟩
     have HB9 := Lib.hid (bw_call HB8.out hdc.b)
     have HS9 := Lib.hid (HS8.out.below hdc.b)
     have HSC9 := Lib.hid (hdc.ls (prs_parts hpc))
     obtain ⟨qc, cc, hvc, hcc⟩ := row_cap hdc.own
     subst hvc
     obtain ⟨nc, hnc⟩ : ∃ nc, nc = lc.length := ⟨_, rfl⟩
     rw [← hnc] at HSC9 hcc ⊢
     have HNC := Lib.hid hnc
     have hac2 : na ≤ nc := by
      have h1 := (land_take bs1 bs1).2
      rw [← HPA.out, ← hpc, prs_len, prs_len, ← HNA.out, ← hnc] at h1
      exact h1
     have HEQ2 : Hid (decide (prs la = prs (lc.take na)) = true) := show _ = _ from decide_eq_true (by
      have h1 := (land_take bs1 bs1).1
      rw [← HPA.out, ← hpc, prs_len, ← HNA.out] at h1
      rw [prs_take, h1])
     clear hpc hdc hnc
     have f2 : (na : Int) ≤ nc := by omega
     have f3 : (na : Int) ≤ cc := by omega
     have HTK2 : Hid ((lc.take na).length = na) := show _ = _ from by rw [List.length_take, ← HNC.out]; omega
     have HSM2 : Hid (Calls Tryd.prog 16 #[.slice qa na ca, .slice qc na cc] w9 fun e w' => e = .returned (.bool true) ∧ Below w9.heap.size w9 w') := show Calls _ _ _ _ _ from by
      have h1 := HSC9.out.take na cc
      rw [HTK2.out] at h1
      have h := rsame13_any la (lc.take na) _ _ w9 HS9.out h1 (by rw [← HNA.out]; omega)
      rw [HEQ2.out] at h
      exact h
     go_wp2_with fail
     refine HSM2.out.mono ?_
     rintro e w10 ⟨rfl, hb10⟩
     have HB10 := Lib.hid (bw_call HB9.out hb10)
     clear hb10
     go_wp2_with fail
     go_ret
     exact ⟨rfl, HB10.out⟩
 ·by_cases h152 : 15 < m
  ·skip
   have d0 : decide ((15 : Int) < n) = false := decide_eq_false (by omega)
   have hN1 := hn
   have h1 := h
   have HA := Lib.hid h
   have hnc : n ≤ 15 := by omega
   have d1 : decide ((15 : Int) < m) = true := decide_eq_true (by omega)
   have d1c : (15 : Int) ≤ c2 := by omega
   have hN2 : 15 = (more.take 15).length := by rw [List.length_take]; omega
   have h3 := h2.take 15 c2
   rw [← hN2] at h3
   have HA2 := Lib.hid h3
   clear h h2 h1 h3 hR hn hm h15 h152 hlen hlen2
   generalize l = bs1 at *
   generalize more.take 15 = bs2 at *
   have HN1 : Hid (n = bs1.length) := hN1
   have HN2 : Hid (15 = bs2.length) := hN2
   have HQ1 : Hid (q = none → n = 0 ∧ c = 0) := show _ → _ from fun e => by have := hqn e; omega
   have HQ2 : Hid (q2 = none → 15 = 0 ∧ c2 = 0) := show _ → _ from fun e => by have := hqn2 e; omega
   have HP1 : Hid (∀ b ∈ bs1, b.parent.length = 32) := show ∀ b ∈ bs1, _ from fun b hb => (HA.out.2 b hb).2.1
   have HP2 : Hid (∀ b ∈ bs2, b.parent.length = 32) := show ∀ b ∈ bs2, _ from fun b hb => (HA2.out.2 b hb).2.1
   have HLN1 : Hid ((bkcs bs1).length = n * 35) := show _ = _ from by rw [HN1.out]; exact bkcs_len HP1.out
   have HLN2 : Hid ((bkcs bs2).length = 15 * 35) := show _ = _ from by rw [HN2.out]; exact bkcs_len HP2.out
   clear hqn hqn2 hN1 hN2
   go_enter Tryd.func7, Tryd.ntmps7
   go_wp2_with fail
   refine (HL.out q n c bs1 w HN1.out (by omega) HA.out HR.out).mono ?_
   rintro e w1 ⟨va, la, rfl, hpa, hda⟩
   have HB1 := Lib.hid hda.b
   have HA1 := Lib.hid (HA.out.below hda.b)
   have HA21 := Lib.hid (HA2.out.below hda.b)
   have HS1 := Lib.hid (hda.ls (prs_parts hpa))
   have HPA := Lib.hid hpa
   obtain ⟨qa, ca, hva, hac⟩ := row_cap hda.own
   subst hva
   obtain ⟨na, hna⟩ : ∃ na, na = la.length := ⟨_, rfl⟩
   rw [← hna] at HS1 hac ⊢
   have HNA := Lib.hid hna
   have hna40 : na ≤ 1099511627777 := by
    have h1 := land_len bs1
    rw [← hpa, prs_len] at h1
    omega
   clear hpa hda hna
   have hO0 := bk_zero w1 62 35
   have hB0 := bw_alloc (Below.refl w1.heap.size w1) (.cells #[] 62)
   have HA1z := Lib.hid (HA1.out.below hB0)
   have HA21z := Lib.hid (HA21.out.below hB0)
   have HBZ := Lib.hid hB0
   have hsz0 : w1.heap.size ≤ (w1.alloc (.cells #[] 62)).heap.size := hB0.size
   clear hB0
   go_wp2_with (first
    | ((at_builtin; refine wpList_append_any rfl (.tmp 21) (.tmp 22) 34 rfl w1.heap.size 62 iB (.agg zlBlk.toArray) 35 72 Tryd.underlying34 hiB hzB0 hzB1 hzB2 rfl (by decide) w1.heap.size 0 0 [] rfl hO0 q n c (bkcs bs1) rfl HQ1.out HLN1.out (bks_news HA1z.out) (bk_one HA1z.out) (by unfold maxLen; omega) (by omega) hsz0 ?_); intro g1 c1 w2 hO1 hg1; rw [Nat.zero_add, List.nil_append] at hO1; have hB1x := HBZ.out.grown hg1 hsz0 (fun j hj => own_blk hO0 j hj); have HA22 := Lib.hid (HA21.out.below hB1x); have hsz2 := hB1x.size)
    | ((at_builtin; refine wpList_append_any rfl (.tmp 23) (.tmp 24) 34 rfl w1.heap.size 62 iB (.agg zlBlk.toArray) 35 72 Tryd.underlying34 hiB hzB0 hzB1 hzB2 rfl (by decide) g1 n c1 (bkcs bs1) rfl hO1 q2 15 c2 (bkcs bs2) rfl HQ2.out HLN2.out (bks_news HA22.out) (bk_one HA22.out) (by unfold maxLen; omega) (by omega) hsz2 ?_); intro g2 cc2 w3 hO2 hg2; have hB2x := hB1x.grown hg2 hsz2 (fun j hj => own_blk hO1 j hj)))
   have HO2 := Lib.hid hO2
   have hB3 : Below w1.heap.size w1 w3 := hB2x
   have HBK := Lib.hid (show BksAt w3 (.slice (some ⟨g2, 0, none⟩) (n + 15) cc2) (bs1 ++ bs2) from bks_own (by rw [show bkcs (bs1 ++ bs2) = bkcs bs1 ++ bkcs bs2 from List.flatMap_append ..]; exact HO2.out) (by rw [List.length_append, ← HN1.out, ← HN2.out]) (fun b hb => by
    rcases List.mem_append.1 hb with hb | hb
    ·exact HA1.out.2 b hb
    ·exact HA21.out.2 b hb) hB3)
   have HB3 := Lib.hid (bw_call HB1.out hB3)
   have HA3 := Lib.hid (HA1.out.below hB3)
   have HS3 := Lib.hid (HS1.out.below hB3)
   clear hO0 hO1 hO2 hg1 hg2 hB1x hB2x hsz0 hsz2 HA22 HBZ HA1z HA21z hB3
   refine (HL.out (some ⟨g2, 0, none⟩) (n + 15) cc2 (bs1 ++ bs2) w3 (by rw [List.length_append, ← HN1.out, ← HN2.out]) (by omega) HBK.out (HR.out.below HB3.out HR.out.1)).mono ?_
   rintro e w4 ⟨vb, lb, rfl, hpb, hdb⟩
   have HB4 := Lib.hid (bw_call HB3.out hdb.b)
   have HA4 := Lib.hid (HA3.out.below hdb.b)
   have HS4 := Lib.hid (HS3.out.below hdb.b)
   have HSB4 := Lib.hid (hdb.ls (prs_parts hpb))
   obtain ⟨qb, cb, hvb, hbc⟩ := row_cap hdb.own
   subst hvb
   obtain ⟨nb, hnb⟩ : ∃ nb, nb = lb.length := ⟨_, rfl⟩
   rw [← hnb] at HSB4 hbc ⊢
   have HNB := Lib.hid hnb
   have hab : na ≤ nb := by
    have h1 := (land_take bs1 bs2).2
    rw [← HPA.out, ← hpb, prs_len, prs_len, ← HNA.out, ← hnb] at h1
    exact h1
   have hnb40 : nb ≤ 1099511627777 := by
    have h1 := land_len (bs1 ++ bs2)
    rw [← hpb, prs_len] at h1
    omega
   have HEQ : Hid (decide (prs la = prs (lb.take na)) = true) := show _ = _ from decide_eq_true (by
    have h1 := (land_take bs1 bs2).1
    rw [← HPA.out, ← hpb, prs_len, ← HNA.out] at h1
    rw [prs_take, h1])
   have HSQ : Hid (SeqOk (prs lb)) := show SeqOk _ from by rw [hpb]; exact land_seq _
   clear hpb hdb hnb
   go_wp2_with fail
   refine (awake13_any _ (HR.out.below HB4.out HR.out.1)).mono ?_
   rintro e w5 ⟨rfl, hb5⟩
   have HB5 := Lib.hid (bw_call HB4.out hb5)
   have HA5 := Lib.hid (HA4.out.below hb5)
   have HS5 := Lib.hid (HS4.out.below hb5)
   have HSB5 := Lib.hid (HSB4.out.below hb5)
   clear hb5
   have d5 : decide ((nb : Int) < na) = false := decide_eq_false (by omega)
   have d5' : decide (nb < na) = false := decide_eq_false (by omega)
   have f1 : (na : Int) ≤ cb := by omega
   have f1' : na ≤ cb := by omega
   have f0 : (0 : Int) ≤ na := by omega
   have HTK : Hid ((lb.take na).length = na) := show _ = _ from by rw [List.length_take, ← HNB.out]; omega
   have HSM : Hid (Calls Tryd.prog 16 #[.slice qa na ca, .slice qb na cb] w5 fun e w' => e = .returned (.bool true) ∧ Below w5.heap.size w5 w') := show Calls _ _ _ _ _ from by
    have h1 := HSB5.out.take na cb
    rw [HTK.out] at h1
    have h := rsame13_any la (lb.take na) _ _ w5 HS5.out h1 (by rw [← HNA.out]; omega)
    rw [HEQ.out] at h
    exact h
   go_wp2_with fail
   refine HSM.out.mono ?_
   rintro e w6 ⟨rfl, hb6⟩
   have HB6 := Lib.hid (bw_call HB5.out hb6)
   have HA6 := Lib.hid (HA5.out.below hb6)
   have HS6 := Lib.hid (HS5.out.below hb6)
   have HSB6 := Lib.hid (HSB5.out.below hb6)
   clear hb6
   go_wp2_with fail
   go_loopw [7] (fun i_ wr => ∃ j : Nat, i_ = .int .i64 j ∧ j ≤ nb ∧ wr = w6) (fun i_ _ => match i_ with | .int _ k => nb - k.toNat | _ => 0)
   case atStart => exact ⟨0, rfl, Nat.zero_le _, rfl⟩
   case round =>
    obtain ⟨j, rfl, hjn, rfl⟩ := hrel
    by_cases hlt : j < nb
    ·have hjb : j < lb.length := by have := HNB.out; omega
     obtain ⟨gb, ob, hqb, _, -, hcb⟩ := HSB6.out.1.at j (by rw [List.length_map]; exact hjb)
     subst hqb
     rw [List.getElem_map] at hcb
     have hsq : (lb[j]'hjb).b.seq = j := by
      have h := HSQ.out j (by rw [prs_len]; exact hjb)
      simpa [prs] using h
     have k1 : wr.cell? ⟨gb, ob + j * 5 + 1, none⟩ = some (.int .i64 j) := by
      have h := hcb 1 _ rfl
      rw [hsq] at h
      exact h
     have e0 : (0 : Int) ≤ j := by omega
     have e1 : (j : Int) < nb := by omega
     have e2 : ((j : Int) != j) = false := bne_self_eq_false _
     clear hcb hsq
     go_wp2_with fail
     go_roundw
     case rel => exact ⟨j + 1, by go_num, hlt, trivial⟩
     case measure => simp; omega
    ·obtain rfl : j = nb := by omega
     have e1 : decide ((j : Int) < j) = false := decide_eq_false (by omega)
     have hP0 := bk_zero wr 62 35
     have hB0 := bw_alloc (Below.refl wr.heap.size wr) (.cells #[] 62)
     have HA6z := Lib.hid (HA6.out.below hB0)
     have HBZ := Lib.hid hB0
     have hsz0 : wr.heap.size ≤ (wr.alloc (.cells #[] 62)).heap.size := hB0.size
     clear hB0
     go_wp2_with (first
      | ((at_builtin; refine wpList_append_any rfl (.tmp 59) (.tmp 60) 34 rfl wr.heap.size 62 iB (.agg zlBlk.toArray) 35 72 Tryd.underlying34 hiB hzB0 hzB1 hzB2 rfl (by decide) wr.heap.size 0 0 [] rfl hP0 q n c (bkcs bs1) rfl HQ1.out HLN1.out (bks_news HA6z.out) (bk_one HA6z.out) (by unfold maxLen; omega) (by omega) hsz0 ?_); intro g3 c3 w7 hO1 hg1; rw [Nat.zero_add, List.nil_append] at hO1; have hB1x := HBZ.out.grown hg1 hsz0 (fun j hj => own_blk hP0 j hj); have HA7 := Lib.hid (HA6.out.below hB1x); have hsz2 := hB1x.size)
      | ((at_builtin; refine wpList_append_any rfl (.tmp 61) (.tmp 62) 34 rfl wr.heap.size 62 iB (.agg zlBlk.toArray) 35 72 Tryd.underlying34 hiB hzB0 hzB1 hzB2 rfl (by decide) g3 n c3 (bkcs bs1) rfl hO1 q n c (bkcs bs1) rfl HQ1.out HLN1.out (bks_news HA7.out) (bk_one HA7.out) (by unfold maxLen; omega) (by omega) hsz2 ?_); intro g4 c4 w8 hO2 hg2; have hB2x := hB1x.grown hg2 hsz2 (fun j hj => own_blk hO1 j hj)))
     have HO2 := Lib.hid hO2
     have hB3 : Below wr.heap.size wr w8 := hB2x
     have HBK := Lib.hid (show BksAt w8 (.slice (some ⟨g4, 0, none⟩) (n + n) c4) (bs1 ++ bs1) from bks_own (by rw [show bkcs (bs1 ++ bs1) = bkcs bs1 ++ bkcs bs1 from List.flatMap_append ..]; exact HO2.out) (by rw [List.length_append, ← HN1.out]) (fun b hb => by
      rcases List.mem_append.1 hb with hb | hb
      ·exact HA6.out.2 b hb
      ·exact HA6.out.2 b hb) hB3)
     have HB8 := Lib.hid (bw_call HB6.out hB3)
     have HS8 := Lib.hid (HS6.out.below hB3)
     clear hP0 hO1 hO2 hg1 hg2 hB1x hB2x hsz0 hsz2 HA7 HBZ HA6z hB3
     refine (HL.out (some ⟨g4, 0, none⟩) (n + n) c4 (bs1 ++ bs1) w8 (by rw [List.length_append, ← HN1.out]) (by omega) HBK.out (HR.out.below HB8.out HR.out.1)).mono ?_
     rintro e w9 ⟨vc, lc, rfl, hpc, hdc⟩
     have HB9 := Lib.hid (bw_call HB8.out hdc.b)
     have HS9 := Lib.hid (HS8.out.below hdc.b)
     have HSC9 := Lib.hid (hdc.ls (prs_parts hpc))
     obtain ⟨qc, cc, hvc, hcc⟩ := row_cap hdc.own
     subst hvc
     obtain ⟨nc, hnc⟩ : ∃ nc, nc = lc.length := ⟨_, rfl⟩
     rw [← hnc] at HSC9 hcc ⊢
     have HNC := Lib.hid hnc
     have hac2 : na ≤ nc := by
      have h1 := (land_take bs1 bs1).2
      rw [← HPA.out, ← hpc, prs_len, prs_len, ← HNA.out, ← hnc] at h1
      exact h1
     have HEQ2 : Hid (decide (prs la = prs (lc.take na)) = true) := show _ = _ from decide_eq_true (by
      have h1 := (land_take bs1 bs1).1
      rw [← HPA.out, ← hpc, prs_len, ← HNA.out] at h1
      rw [prs_take, h1])
     clear hpc hdc hnc
     have f2 : (na : Int) ≤ nc := by omega
     have f3 : (na : Int) ≤ cc := by omega
     have HTK2 : Hid ((lc.take na).length = na) := show _ = _ from by rw [List.length_take, ← HNC.out]; omega
     have HSM2 : Hid (Calls Tryd.prog 16 #[.slice qa na ca, .slice qc na cc] w9 fun e w' => e = .returned (.bool true) ∧ Below w9.heap.size w9 w') := show Calls _ _ _ _ _ from by
      have h1 := HSC9.out.take na cc
      rw [HTK2.out] at h1
      have h := rsame13_any la (lc.take na) _ _ w9 HS9.out h1 (by rw [← HNA.out]; omega)
      rw [HEQ2.out] at h
      exact h
     go_wp2_with fail
     refine HSM2.out.mono ?_
     rintro e w10 ⟨rfl, hb10⟩
     have HB10 := Lib.hid (bw_call HB9.out hb10)
     clear hb10
     go_wp2_with fail
     go_ret
     exact ⟨rfl, HB10.out⟩
  ·skip
   have d0 : decide ((15 : Int) < n) = false := decide_eq_false (by omega)
   have hN1 := hn
   have h1 := h
   have HA := Lib.hid h
   have hnc : n ≤ 15 := by omega
   have d1 : decide ((15 : Int) < m) = false := decide_eq_false (by omega)
   have hN2 := hm
   have h3 := h2
   have HA2 := Lib.hid h2
   have hmc : m ≤ 15 := by omega
   clear h h2 h1 h3 hR hn hm h15 h152 hlen hlen2
   generalize l = bs1 at *
   generalize more = bs2 at *
   have HN1 : Hid (n = bs1.length) := hN1
   have HN2 : Hid (m = bs2.length) := hN2
   have HQ1 : Hid (q = none → n = 0 ∧ c = 0) := show _ → _ from fun e => by have := hqn e; omega
   have HQ2 : Hid (q2 = none → m = 0 ∧ c2 = 0) := show _ → _ from fun e => by have := hqn2 e; omega
   have HP1 : Hid (∀ b ∈ bs1, b.parent.length = 32) := show ∀ b ∈ bs1, _ from fun b hb => (HA.out.2 b hb).2.1
   have HP2 : Hid (∀ b ∈ bs2, b.parent.length = 32) := show ∀ b ∈ bs2, _ from fun b hb => (HA2.out.2 b hb).2.1
   have HLN1 : Hid ((bkcs bs1).length = n * 35) := show _ = _ from by rw [HN1.out]; exact bkcs_len HP1.out
   have HLN2 : Hid ((bkcs bs2).length = m * 35) := show _ = _ from by rw [HN2.out]; exact bkcs_len HP2.out
   clear hqn hqn2 hN1 hN2
   go_enter Tryd.func7, Tryd.ntmps7
   go_wp2_with fail
   refine (HL.out q n c bs1 w HN1.out (by omega) HA.out HR.out).mono ?_
   rintro e w1 ⟨va, la, rfl, hpa, hda⟩
   have HB1 := Lib.hid hda.b
   have HA1 := Lib.hid (HA.out.below hda.b)
   have HA21 := Lib.hid (HA2.out.below hda.b)
   have HS1 := Lib.hid (hda.ls (prs_parts hpa))
   have HPA := Lib.hid hpa
   obtain ⟨qa, ca, hva, hac⟩ := row_cap hda.own
   subst hva
   obtain ⟨na, hna⟩ : ∃ na, na = la.length := ⟨_, rfl⟩
   rw [← hna] at HS1 hac ⊢
   have HNA := Lib.hid hna
   have hna40 : na ≤ 1099511627777 := by
    have h1 := land_len bs1
    rw [← hpa, prs_len] at h1
    omega
   clear hpa hda hna
   have hO0 := bk_zero w1 62 35
   have hB0 := bw_alloc (Below.refl w1.heap.size w1) (.cells #[] 62)
   have HA1z := Lib.hid (HA1.out.below hB0)
   have HA21z := Lib.hid (HA21.out.below hB0)
   have HBZ := Lib.hid hB0
   have hsz0 : w1.heap.size ≤ (w1.alloc (.cells #[] 62)).heap.size := hB0.size
   clear hB0
   go_wp2_with (first
    | ((at_builtin; refine wpList_append_any rfl (.tmp 21) (.tmp 22) 34 rfl w1.heap.size 62 iB (.agg zlBlk.toArray) 35 72 Tryd.underlying34 hiB hzB0 hzB1 hzB2 rfl (by decide) w1.heap.size 0 0 [] rfl hO0 q n c (bkcs bs1) rfl HQ1.out HLN1.out (bks_news HA1z.out) (bk_one HA1z.out) (by unfold maxLen; omega) (by omega) hsz0 ?_); intro g1 c1 w2 hO1 hg1; rw [Nat.zero_add, List.nil_append] at hO1; have hB1x := HBZ.out.grown hg1 hsz0 (fun j hj => own_blk hO0 j hj); have HA22 := Lib.hid (HA21.out.below hB1x); have hsz2 := hB1x.size)
    | ((at_builtin; refine wpList_append_any rfl (.tmp 23) (.tmp 24) 34 rfl w1.heap.size 62 iB (.agg zlBlk.toArray) 35 72 Tryd.underlying34 hiB hzB0 hzB1 hzB2 rfl (by decide) g1 n c1 (bkcs bs1) rfl hO1 q2 m c2 (bkcs bs2) rfl HQ2.out HLN2.out (bks_news HA22.out) (bk_one HA22.out) (by unfold maxLen; omega) (by omega) hsz2 ?_); intro g2 cc2 w3 hO2 hg2; have hB2x := hB1x.grown hg2 hsz2 (fun j hj => own_blk hO1 j hj)))
   have HO2 := Lib.hid hO2
   have hB3 : Below w1.heap.size w1 w3 := hB2x
   have HBK := Lib.hid (show BksAt w3 (.slice (some ⟨g2, 0, none⟩) (n + m) cc2) (bs1 ++ bs2) from bks_own (by rw [show bkcs (bs1 ++ bs2) = bkcs bs1 ++ bkcs bs2 from List.flatMap_append ..]; exact HO2.out) (by rw [List.length_append, ← HN1.out, ← HN2.out]) (fun b hb => by
    rcases List.mem_append.1 hb with hb | hb
    ·exact HA1.out.2 b hb
    ·exact HA21.out.2 b hb) hB3)
   have HB3 := Lib.hid (bw_call HB1.out hB3)
   have HA3 := Lib.hid (HA1.out.below hB3)
   have HS3 := Lib.hid (HS1.out.below hB3)
   clear hO0 hO1 hO2 hg1 hg2 hB1x hB2x hsz0 hsz2 HA22 HBZ HA1z HA21z hB3
   refine (HL.out (some ⟨g2, 0, none⟩) (n + m) cc2 (bs1 ++ bs2) w3 (by rw [List.length_append, ← HN1.out, ← HN2.out]) (by omega) HBK.out (HR.out.below HB3.out HR.out.1)).mono ?_
   rintro e w4 ⟨vb, lb, rfl, hpb, hdb⟩
   have HB4 := Lib.hid (bw_call HB3.out hdb.b)
   have HA4 := Lib.hid (HA3.out.below hdb.b)
   have HS4 := Lib.hid (HS3.out.below hdb.b)
   have HSB4 := Lib.hid (hdb.ls (prs_parts hpb))
   obtain ⟨qb, cb, hvb, hbc⟩ := row_cap hdb.own
   subst hvb
   obtain ⟨nb, hnb⟩ : ∃ nb, nb = lb.length := ⟨_, rfl⟩
   rw [← hnb] at HSB4 hbc ⊢
   have HNB := Lib.hid hnb
   have hab : na ≤ nb := by
    have h1 := (land_take bs1 bs2).2
    rw [← HPA.out, ← hpb, prs_len, prs_len, ← HNA.out, ← hnb] at h1
    exact h1
   have hnb40 : nb ≤ 1099511627777 := by
    have h1 := land_len (bs1 ++ bs2)
    rw [← hpb, prs_len] at h1
    omega
   have HEQ : Hid (decide (prs la = prs (lb.take na)) = true) := show _ = _ from decide_eq_true (by
    have h1 := (land_take bs1 bs2).1
    rw [← HPA.out, ← hpb, prs_len, ← HNA.out] at h1
    rw [prs_take, h1])
   have HSQ : Hid (SeqOk (prs lb)) := show SeqOk _ from by rw [hpb]; exact land_seq _
   clear hpb hdb hnb
   go_wp2_with fail
   refine (awake13_any _ (HR.out.below HB4.out HR.out.1)).mono ?_
   rintro e w5 ⟨rfl, hb5⟩
   have HB5 := Lib.hid (bw_call HB4.out hb5)
   have HA5 := Lib.hid (HA4.out.below hb5)
   have HS5 := Lib.hid (HS4.out.below hb5)
   have HSB5 := Lib.hid (HSB4.out.below hb5)
   clear hb5
   have d5 : decide ((nb : Int) < na) = false := decide_eq_false (by omega)
   have d5' : decide (nb < na) = false := decide_eq_false (by omega)
   have f1 : (na : Int) ≤ cb := by omega
   have f1' : na ≤ cb := by omega
   have f0 : (0 : Int) ≤ na := by omega
   have HTK : Hid ((lb.take na).length = na) := show _ = _ from by rw [List.length_take, ← HNB.out]; omega
   have HSM : Hid (Calls Tryd.prog 16 #[.slice qa na ca, .slice qb na cb] w5 fun e w' => e = .returned (.bool true) ∧ Below w5.heap.size w5 w') := show Calls _ _ _ _ _ from by
    have h1 := HSB5.out.take na cb
    rw [HTK.out] at h1
    have h := rsame13_any la (lb.take na) _ _ w5 HS5.out h1 (by rw [← HNA.out]; omega)
    rw [HEQ.out] at h
    exact h
   go_wp2_with fail
   refine HSM.out.mono ?_
   rintro e w6 ⟨rfl, hb6⟩
   have HB6 := Lib.hid (bw_call HB5.out hb6)
   have HA6 := Lib.hid (HA5.out.below hb6)
   have HS6 := Lib.hid (HS5.out.below hb6)
   have HSB6 := Lib.hid (HSB5.out.below hb6)
   clear hb6
   go_wp2_with fail
   go_loopw [7] (fun i_ wr => ∃ j : Nat, i_ = .int .i64 j ∧ j ≤ nb ∧ wr = w6) (fun i_ _ => match i_ with | .int _ k => nb - k.toNat | _ => 0)
   case atStart => exact ⟨0, rfl, Nat.zero_le _, rfl⟩
   case round =>
    obtain ⟨j, rfl, hjn, rfl⟩ := hrel
    by_cases hlt : j < nb
    ·have hjb : j < lb.length := by have := HNB.out; omega
     obtain ⟨gb, ob, hqb, _, -, hcb⟩ := HSB6.out.1.at j (by rw [List.length_map]; exact hjb)
     subst hqb
     rw [List.getElem_map] at hcb
     have hsq : (lb[j]'hjb).b.seq = j := by
      have h := HSQ.out j (by rw [prs_len]; exact hjb)
      simpa [prs] using h
     have k1 : wr.cell? ⟨gb, ob + j * 5 + 1, none⟩ = some (.int .i64 j) := by
      have h := hcb 1 _ rfl
      rw [hsq] at h
      exact h
     have e0 : (0 : Int) ≤ j := by omega
     have e1 : (j : Int) < nb := by omega
     have e2 : ((j : Int) != j) = false := bne_self_eq_false _
     clear hcb hsq
     go_wp2_with fail
     go_roundw
     case rel => exact ⟨j + 1, by go_num, hlt, trivial⟩
     case measure => simp; omega
    ·obtain rfl : j = nb := by omega
     have e1 : decide ((j : Int) < j) = false := decide_eq_false (by omega)
     have hP0 := bk_zero wr 62 35
     have hB0 := bw_alloc (Below.refl wr.heap.size wr) (.cells #[] 62)
     have HA6z := Lib.hid (HA6.out.below hB0)
     have HBZ := Lib.hid hB0
     have hsz0 : wr.heap.size ≤ (wr.alloc (.cells #[] 62)).heap.size := hB0.size
     clear hB0
     go_wp2_with (first
      | ((at_builtin; refine wpList_append_any rfl (.tmp 59) (.tmp 60) 34 rfl wr.heap.size 62 iB (.agg zlBlk.toArray) 35 72 Tryd.underlying34 hiB hzB0 hzB1 hzB2 rfl (by decide) wr.heap.size 0 0 [] rfl hP0 q n c (bkcs bs1) rfl HQ1.out HLN1.out (bks_news HA6z.out) (bk_one HA6z.out) (by unfold maxLen; omega) (by omega) hsz0 ?_); intro g3 c3 w7 hO1 hg1; rw [Nat.zero_add, List.nil_append] at hO1; have hB1x := HBZ.out.grown hg1 hsz0 (fun j hj => own_blk hP0 j hj); have HA7 := Lib.hid (HA6.out.below hB1x); have hsz2 := hB1x.size)
      | ((at_builtin; refine wpList_append_any rfl (.tmp 61) (.tmp 62) 34 rfl wr.heap.size 62 iB (.agg zlBlk.toArray) 35 72 Tryd.underlying34 hiB hzB0 hzB1 hzB2 rfl (by decide) g3 n c3 (bkcs bs1) rfl hO1 q n c (bkcs bs1) rfl HQ1.out HLN1.out (bks_news HA7.out) (bk_one HA7.out) (by unfold maxLen; omega) (by omega) hsz2 ?_); intro g4 c4 w8 hO2 hg2; have hB2x := hB1x.grown hg2 hsz2 (fun j hj => own_blk hO1 j hj)))
     have HO2 := Lib.hid hO2
     have hB3 : Below wr.heap.size wr w8 := hB2x
     have HBK := Lib.hid (show BksAt w8 (.slice (some ⟨g4, 0, none⟩) (n + n) c4) (bs1 ++ bs1) from bks_own (by rw [show bkcs (bs1 ++ bs1) = bkcs bs1 ++ bkcs bs1 from List.flatMap_append ..]; exact HO2.out) (by rw [List.length_append, ← HN1.out]) (fun b hb => by
      rcases List.mem_append.1 hb with hb | hb
      ·exact HA6.out.2 b hb
      ·exact HA6.out.2 b hb) hB3)
     have HB8 := Lib.hid (bw_call HB6.out hB3)
     have HS8 := Lib.hid (HS6.out.below hB3)
     clear hP0 hO1 hO2 hg1 hg2 hB1x hB2x hsz0 hsz2 HA7 HBZ HA6z hB3
     refine (HL.out (some ⟨g4, 0, none⟩) (n + n) c4 (bs1 ++ bs1) w8 (by rw [List.length_append, ← HN1.out]) (by omega) HBK.out (HR.out.below HB8.out HR.out.1)).mono ?_
     rintro e w9 ⟨vc, lc, rfl, hpc, hdc⟩
     have HB9 := Lib.hid (bw_call HB8.out hdc.b)
     have HS9 := Lib.hid (HS8.out.below hdc.b)
     have HSC9 := Lib.hid (hdc.ls (prs_parts hpc))
     obtain ⟨qc, cc, hvc, hcc⟩ := row_cap hdc.own
     subst hvc
     obtain ⟨nc, hnc⟩ : ∃ nc, nc = lc.length := ⟨_, rfl⟩
     rw [← hnc] at HSC9 hcc ⊢
     have HNC := Lib.hid hnc
     have hac2 : na ≤ nc := by
      have h1 := (land_take bs1 bs1).2
      rw [← HPA.out, ← hpc, prs_len, prs_len, ← HNA.out, ← hnc] at h1
      exact h1
     have HEQ2 : Hid (decide (prs la = prs (lc.take na)) = true) := show _ = _ from decide_eq_true (by
      have h1 := (land_take bs1 bs1).1
      rw [← HPA.out, ← hpc, prs_len, ← HNA.out] at h1
      rw [prs_take, h1])
     clear hpc hdc hnc
     have f2 : (na : Int) ≤ nc := by omega
     have f3 : (na : Int) ≤ cc := by omega
     have HTK2 : Hid ((lc.take na).length = na) := show _ = _ from by rw [List.length_take, ← HNC.out]; omega
     have HSM2 : Hid (Calls Tryd.prog 16 #[.slice qa na ca, .slice qc na cc] w9 fun e w' => e = .returned (.bool true) ∧ Below w9.heap.size w9 w') := show Calls _ _ _ _ _ from by
      have h1 := HSC9.out.take na cc
      rw [HTK2.out] at h1
      have h := rsame13_any la (lc.take na) _ _ w9 HS9.out h1 (by rw [← HNA.out]; omega)
      rw [HEQ2.out] at h
      exact h
     go_wp2_with fail
     refine HSM2.out.mono ?_
     rintro e w10 ⟨rfl, hb10⟩
     have HB10 := Lib.hid (bw_call HB9.out hb10)
     clear hb10
     go_wp2_with fail
     go_ret
     exact ⟨rfl, HB10.out⟩
-- B
theorem bks_some {H : Type} {enc : TypeId × Value → H} {w : World} {q : Option Addr} {n c : Nat} {d : DataW H} {p : List MemPlace} (h : DataW.Trod enc Tryd.prog w 0 (fun _ => true) true 34 (.slice q n c) d p) : q = none → c = 0 := by
 obtain ⟨fuel, hf⟩ := h
 rcases Go.Deep.open_slice Tryd.underlying34 hf with ⟨h1, _⟩ | ⟨a, len, cap, m, k, D, Pl, h1, _⟩
 ·intro _
  injection h1 with h1
  injection h1
 ·intro e
  injection h1 with h1
  injection h1 with h1
  rw [e] at h1
  cases h1
end Go.Proofs.YtbeooeihedhabaaDoor
