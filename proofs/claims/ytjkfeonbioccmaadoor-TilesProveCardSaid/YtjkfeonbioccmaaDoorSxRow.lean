/- Speculum proofs: rows of the call's own: make, literals of slices, append, copy, stores; what was read of them. -/
import Derived.Test.YtjkfeonbioccmaaDoorSxW
import Derived.Maps.AppendAt
import Derived.Laws.OwnMore
import Derived.Laws.IdiomStrings
namespace Go.Sx
open Go Go.RowKit
set_option linter.unusedVariables false
set_option linter.unusedSimpArgs false

section
variable {P : Program} {w : World} {t e : TypeId}
theorem info_of {z : Value} {sz by' : Nat} (hz : zO P e = some z) (hs : szO P e = some sz) (hb : byO P e = some by') : ∃ i, P.info? e = some i ∧ i.zero = some z ∧ i.size = sz ∧ i.bytes = by' := by
  unfold zO at hz; unfold szO at hs; unfold byO at hb
  cases hi : P.info? e with
  | none => simp [hi] at hz
  | some i => simp [hi] at hz hs hb; exact ⟨i, rfl, hz, hs, hb⟩
theorem slice_of_row {v : Value} {sz n : Nat} {xs : List Value} (h : w.ownsRow 0 e sz v n xs) : ∃ A k, v = .slice A n k ∧ (A = none → n = 0) ∧ n ≤ k := by
  rcases h.2 with ⟨rfl, rfl⟩ | ⟨g, cap, cur, rfl, _, _, hc, _⟩
  · exact ⟨none, 0, rfl, fun _ => rfl, Nat.le_refl _⟩
  · exact ⟨some ⟨g, 0, none⟩, cap, rfl, (fun h => by cases h), hc⟩
theorem Fr.grown' {w w' : World} {row : Option Nat} (h : w.grownBy w' row) : Fr (fun k => row = some k) w w' := Fr.grown h
/-- append onto an own row, what is appended being a slice that is read. -/
theorem run_append' {ty : TypeId} {z v : Value} {sz by' n m kc : Nat} {B : Option Addr} {xs news : List Value} (ht : P.underlying t = some (.slice e)) (hz : zO P e = some z) (hs : szO P e = some sz) (hb : byO P e = some by') (hzs : z.cells.size = sz) (h0 : 0 < sz)
    (hrow : w.ownsRow 0 e sz v n xs) (hl : news.length = m * sz) (hnews : Sl w B news) (h1 : ∀ u ∈ news, u.oneCell' = true) (hm : n + m ≤ maxLen) (hby : (n + m) * by' ≤ 140737488355328) :
    ∃ v' w', (Builtin.append_ #[t, t] ty #[v, .slice B m kc]).run P w = .ok v' w' ∧ w'.ownsRow 0 e sz v' (n + m) (xs ++ news) ∧ w.grownBy w' v.ownBlock ∧ (v'.ownBlock = v.ownBlock ∨ v'.ownBlock = some w.heap.size) := by
  obtain ⟨i, hi, hiz, his, hib⟩ := info_of hz hs hb
  cases B with
  | some a =>
    have hc : ∀ j u, news[j]? = some u → w.cell? (a.add j) = some u := by
      rcases hnews with rfl | ⟨_, h⟩
      · intro j u hj; cases hj
      · exact h
    obtain ⟨v', w', h1', h2, h3, h4, h5⟩ := run_append_own_at (P := P) w 0 t ty e i z sz by' ht hi hiz his hib hzs h0 v n xs hrow a m kc news hl hc h1 hm hby (Nat.zero_le _)
    exact ⟨v', w', h1', h2, h3, h5⟩
  | none =>
    have hn : news = [] := by rcases hnews with h | ⟨h, _⟩; exact h; cases h
    subst hn
    have hm0 : m = 0 := by
      have h2 : m * sz = 0 := by simpa using hl.symm
      rcases Nat.mul_eq_zero.1 h2 with h | h
      · exact h
      · omega
    subst hm0
    refine ⟨v, w, ?_, by simpa using hrow, World.grownBy.refl _ _, .inl rfl⟩
    rcases hrow.2 with ⟨rfl, rfl⟩ | ⟨g, cap, cur, rfl, _, _, hnc, _⟩
    · simp [Builtin.append_, run_underlying ht, sizeOf, typeInfo, hi, Builtin.lenOf, Builtin.firstCells]
    · simp [Builtin.append_, run_underlying ht, sizeOf, typeInfo, hi, Builtin.lenOf, Builtin.firstCells, hnc, storeCells]
end

section
variable {c : Cx} {ops : Array Oper} {Q : Exit → Act → World → Prop} {tm tm' : Env} {C C' : List Chunk} {F F' : World → Prop} {l : List Oper} {o : Oper} {v v' vx vy : Value} {x y z : Operand} {t t' e : TypeId} {d : Nat}
/-- A nil slice is a row of one's own. -/
theorem St.nilrow {w : World} (e : TypeId) (sz : Nat) (h : St c w C F) : St c w (.row (.slice none 0 0) e sz 0 [] :: C) F :=
  h.push (Fr.refl _ _) (World.ownsRow_nil w 0 e sz) (fun k hk => by cases hk)
theorem J.drop {x : Chunk} (h : J c ops Q l tm C F) : J c ops Q l tm (x :: C) F := J.st h fun w hs => hs.forget (List.sublist_cons_self _ _)
theorem JC.drop {y : Code} {x : Chunk} (h : JC c y Q tm C F) : JC c y Q tm (x :: C) F := JC.st h fun w hs => hs.forget (List.sublist_cons_self _ _)
theorem JQ.drop {e : Exit} {x : Chunk} (h : JQ c Q e tm C F) : JQ c Q e tm (x :: C) F := JQ.st h fun w hs => hs.forget (List.sublist_cons_self _ _)
/-- Chunks are known by their place. -/
theorem J.append {n m n' kc sz by' : Nat} {B : Option Addr} {zv : Value} {xs news xs' : List Value} (i : Nat) (ho : o.op = .call { callee := .builtin .append, args := #[x, y], argTypes := #[t, t] }) (hg : o.guard = none) (hd : o.dst = some d) (hn : Nat.ble (d + 1) c.n = true)
    (hx : ev tm x = some v) (hy : ev tm y = some (.slice B m kc)) (ht : c.P.underlying t = some (.slice e)) (hz : zO c.P e = some zv) (hs : szO c.P e = some sz) (hb : byO c.P e = some by') (hzs : zv.cells.size = sz) (h0 : 0 < sz)
    (hC : C[i]? = some (.row v e sz n xs)) (hl : news.length = m * sz) (hsl : ∀ w, St c w C F → Sl w B news) (h1 : ∀ u ∈ news, u.oneCell' = true) (hm : n + m ≤ 4000000000000) (hby : by' ≤ 35) (hn' : n + m = n') (hxs' : xs ++ news = xs')
    (h : ∀ A k, (A = none → n' = 0) → n' ≤ k → J c ops Q l ((d, .slice A n' k) :: tm) (C.set i (.row (.slice A n' k) e sz n' xs')) F) : J c ops Q (o :: l) tm C F := by
  subst hn'; subst hxs'
  exact J.ef (S' := True) hg hd hn fun a w ha hst => by
    have hbb : (n + m) * by' ≤ 140737488355328 := Nat.le_trans (Nat.mul_le_mul hm hby) (by decide)
    obtain ⟨v', w', hr, hrow, hgr, hbl⟩ := run_append' (P := c.P) (w := w) (ty := o.type) (kc := kc) ht hz hs hb hzs h0 (hst.get hC) hl (hsl w hst) h1 (by unfold maxLen; omega) hbb
    obtain ⟨A, k, rfl, hA, hk⟩ := slice_of_row hrow
    refine ⟨_, w', ?_, _, _, hst.upd hC (y := .row (.slice A (n + m) k) e sz (n + m) (xs ++ news)) (Fr.grown hgr) hrow (fun g hg' => ?_), h A k hA hk⟩
    · simp only [execOp, ho, resolve, invoke, builtin, Sem.run_bind, Sem.run_pure, Result.andThen_ok, List.map_toArray, List.map_cons, List.map_nil, ha.ev hx, ha.ev hy, hr]
    · rcases hbl with h' | h'
      · exact .inl (show v.ownBlock = some g from h'.symm.trans hg')
      · simp only [Chunk.own] at hg'; rw [h'] at hg'; injection hg' with hg'; exact .inr (by omega)
/-- make([]T, n) -/
theorem madeCells_rep (z : Array Value) (sz : Nat) (hz : z.size = sz) (n : Nat) : (madeCells z (n * sz)).toList = (List.replicate n z.toList).flatten := by
  unfold madeCells
  apply List.ext_getElem?
  intro j
  have hfl : ∀ (n j : Nat), (List.replicate n z.toList).flatten[j]? = if j < n * sz then z.toList[j % sz]? else none := by
    intro n
    induction n with
    | zero => intro j; simp
    | succ n ih =>
      intro j
      rw [List.replicate_succ, List.flatten_cons, List.getElem?_append, Array.length_toList, hz]
      by_cases h1 : j < sz
      · rw [if_pos h1, Nat.mod_eq_of_lt h1, if_pos (by rw [Nat.succ_mul]; omega)]
      · rw [if_neg h1, ih]
        have h2 : j % sz = (j - sz) % sz := Nat.mod_eq_sub_mod (by omega)
        rw [h2, Nat.succ_mul]
        by_cases h3 : j - sz < n * sz
        · rw [if_pos h3, if_pos (by omega)]
        · rw [if_neg h3, if_neg (by omega)]
  rw [hfl]
  simp only [Array.toList_map, Array.toList_range, List.getElem?_map]
  by_cases h : j < n * sz
  · rw [if_pos h, List.getElem?_range h]
    have h0 : 0 < sz := by
      rcases Nat.eq_zero_or_pos sz with h' | h'
      · rw [h'] at h; omega
      · exact h'
    have hlt : j % sz < z.size := by rw [hz]; exact Nat.mod_lt _ h0
    rw [hz]
    simp [hlt]
  · rw [if_neg h, List.getElem?_eq_none (by simpa using h)]; rfl
theorem J.make {kl kc : IntKind} {a : Int} {sz by' : Nat} {zv : Value} {zs : List Value} (ho : o.op = .makeSlice t x y) (hg : o.guard = none) (hd : o.dst = some d) (hn : Nat.ble (d + 1) c.n = true) (hx : ev tm x = some (.int kl a)) (hy : ev tm y = some (.int kc a))
    (ht : c.P.underlying t = some (.slice e)) (hz : zO c.P e = some zv) (hs : szO c.P e = some sz) (hb : byO c.P e = some by') (hzc : zv.cells = zs.toArray) (hzs : zs.length = sz) (ha : 0 ≤ a ∧ a ≤ 4000000000000) (hby : by' ≤ 64)
    (h : ∀ g, J c ops Q l ((d, .slice (some ⟨g, 0, none⟩) a.toNat a.toNat) :: tm) (.row (.slice (some ⟨g, 0, none⟩) a.toNat a.toNat) e sz a.toNat (List.replicate a.toNat zs).flatten :: C) F) : J c ops Q (o :: l) tm C F :=
  J.ef (S' := True) hg hd hn fun ac w hag hst => by
    obtain ⟨i, hi, hiz, his, hib⟩ := info_of hz hs hb
    obtain ⟨n, rfl⟩ : ∃ n : Nat, a = n := ⟨a.toNat, by omega⟩
    have hbb : i.bytes * n ≤ 281474976710656 := by
      rw [hib]
      have : by' * n ≤ 64 * 4000000000000 := Nat.mul_le_mul hby (by omega)
      omega
    obtain ⟨w', hr, hrow, hgr⟩ := run_make_full (P := c.P) w 0 t e i zv sz ht hi hiz his kl kc n hbb (by unfold maxLen; omega) (Nat.zero_le _)
    rw [madeCells_rep _ sz (by rw [hzc]; simpa using hzs), hzc] at hrow
    refine ⟨_, w', ?_, _, _, hst.push ((Fr.grown hgr).mono fun k hk => by cases hk) (x := .row (.slice (some ⟨w.heap.size, 0, none⟩) n n) e sz n (List.replicate n zs).flatten) hrow (fun k hk => by simp only [Chunk.own, Value.ownBlock, Option.some.injEq] at hk; omega), h _⟩
    simp only [execOp, ho, hag.ev hx, hag.ev hy, Sem.run_bind, hr]; rfl
theorem rep_one (n : Nat) (v : Value) : (List.replicate n [v]).flatten = List.replicate n v := by
  induction n with
  | zero => rfl
  | succ n ih => rw [List.replicate_succ, List.flatten_cons, ih, List.replicate_succ]; rfl
theorem J.makeN {kl kc : IntKind} {a : Int} {sz by' : Nat} {zv : Value} {zs xs : List Value} (n : Nat) (ho : o.op = .makeSlice t x y) (hg : o.guard = none) (hd : o.dst = some d) (hn : Nat.ble (d + 1) c.n = true) (hx : ev tm x = some (.int kl a)) (hy : ev tm y = some (.int kc a))
    (ht : c.P.underlying t = some (.slice e)) (hz : zO c.P e = some zv) (hs : szO c.P e = some sz) (hb : byO c.P e = some by') (hzc : zv.cells = zs.toArray) (hzs : zs.length = sz) (ha : a = n) (hm : n ≤ 4000000000000) (hby : by' ≤ 64) (hxs : (List.replicate n zs).flatten = xs)
    (h : ∀ g, J c ops Q l ((d, .slice (some ⟨g, 0, none⟩) n n) :: tm) (.row (.slice (some ⟨g, 0, none⟩) n n) e sz n xs :: C) F) : J c ops Q (o :: l) tm C F := by
  subst ha; subst hxs
  exact J.make ho hg hd hn hx hy ht hz hs hb hzc hzs (by omega) hby (by simpa using h)
theorem J.store1c {g off : Nat} {tt : TypeId} {cs cs' : List Value} (ic : Nat) (ho : o.op = .store t x y) (hg : o.guard = none) (hd : o.dst = none) (hx : ev tm x = some (.pointer (some ⟨g, off, none⟩))) (hy : ev tm y = some v) (hC : C[ic]? = some (.box g tt cs))
    (hv : v.cells = #[v]) (hz : szO c.P t = some 1) (h1 : v.oneCell' = true) (hm : off < cs.length) (he : cs.set off v = cs')
    (h : J c ops Q l tm (C.set ic (.box g tt cs')) F) : J c ops Q (o :: l) tm C F := by
  subst he
  exact J.store1 ic ho hg hd hx hy hC hv hz hm h1 h
theorem D.store1c {Cs : List Chunk} {Fs : World → Prop} {fuel : Nat} {listed : Array Bool} {g off : Nat} {tt : TypeId} {cs cs' : List Value} (i ic : Nat) (hri : Region.ready .any ops listed = [i]) (hi : ops[i]? = some o) (hl' : loose ops i = false) (hlast : Region.ready .any ops (listed.setIfInBounds i true) = []) (ho : o.op = .store t x y) (hg : o.guard = none) (hd : o.dst = none) (hx : ev tm x = some (.pointer (some ⟨g, off, none⟩))) (hy : ev tm y = some v) (hC : C[ic]? = some (.box g tt cs))
    (hv : v.cells = #[v]) (hz : szO c.P t = some 1) (h1 : v.oneCell' = true) (hm : off < cs.length) (he : cs.set off v = cs')
    (h : JQ c Q .normal tm (C.set ic (.box g tt cs')) F) : D c ops Q Cs Fs (fuel + 1) listed tm C F := by
  subst he
  exact D.store1 i ic hri hi hl' hlast ho hg hd hx hy hC hv hz hm h1 h
theorem one1 (h : v.oneCell' = true) : ∀ u ∈ [v], u.oneCell' = true := by
  intro u hu
  rw [List.mem_singleton.1 hu]; exact h
theorem y_b2sN {A : Option Addr} {k n : Nat} {bs : List UInt8} (ho : o.op = .convert t t' x) (ht : c.P.underlying t = some (.slice e)) (he : c.P.underlying e = some (.int .u8)) (ht' : c.P.underlying t' = some .string) (hx : ev tm x = some (.slice A n k)) (hl : bs.length = n)
    (hr : ∀ w, St c w C F → Sl w A (bs.map u8)) : Yl c tm C F o (str bs) := by
  subst hl
  exact y_b2s ho ht he ht' hx hr
/-- []T{x} -/
theorem fill_one {place : Nat → Option (Nat × Nat)} {cs vs : List Value} {rest : List (Nat × Value)} {i off : Nat} (hp : place i = some (off, vs.length)) (hv : v.cells = vs.toArray) (hl : off + vs.length ≤ cs.length) : Instr.fill place cs.toArray ((i, v) :: rest) = Instr.fill place (spl cs off vs).toArray rest := by
  have key : ∀ (vs : List Value) (off k : Nat) (cs : List Value), off + k + vs.length ≤ cs.length → (vs.zipIdx k).foldl (fun (cs : Array Value) (p : Value × Nat) => cs.setIfInBounds (off + p.2) p.1) cs.toArray = (spl cs (off + k) vs).toArray := by
    intro vs
    induction vs with
    | nil => intro off k cs h; simp [spl]
    | cons u r ih =>
      intro off k cs h
      rw [List.zipIdx_cons, List.foldl_cons]
      have h1 : cs.toArray.setIfInBounds (off + k) u = (cs.set (off + k) u).toArray := by apply Array.ext'; simp
      simp only [h1]
      rw [ih off (k + 1) (cs.set (off + k) u) (by simp at h ⊢; omega)]
      congr 1
      simp only [spl, List.length_cons] at h ⊢
      have hg : (cs.set (off + k) u)[off + k]? = some u := by rw [List.getElem?_set_self (by omega)]
      rw [show off + (k + 1) = off + k + 1 by omega, List.take_add_one, hg, List.take_set_of_le (Nat.le_refl _), List.drop_set_of_lt (by omega)]
      simp only [Option.toList_some, List.append_assoc, List.cons_append, List.nil_append]
      rw [show off + k + 1 + r.length = off + k + (r.length + 1) by omega]
  rw [Instr.fill, hp]
  simp only [hv, List.size_toArray]
  rw [if_neg (by simp; omega)]
  congr 1
  have := key vs off 0 cs (by omega)
  simp only [Nat.add_zero] at this
  rw [← this]
  rw [← Array.foldl_toList]
  simp
/-- An array of one-celled elements, all of them told. -/
theorem fill_all : ∀ (vals : List Value) (k : Nat) (pre post : List Value), (∀ v ∈ vals, v.cells = #[v]) → post.length = vals.length → pre.length = k →
    Instr.fill (fun i => some (i * 1, 1)) (pre ++ post).toArray ((vals.zipIdx k).map fun p => (p.2, p.1)) = some (pre ++ vals).toArray := by
  intro vals
  induction vals with
  | nil =>
    intro k pre post _ hp _
    have : post = [] := List.eq_nil_of_length_eq_zero (by simpa using hp)
    subst this
    simp [Instr.fill]
  | cons v r ih =>
    intro k pre post h1 hp hk
    cases post with
    | nil => simp at hp
    | cons x post =>
      rw [List.zipIdx_cons, List.map_cons]
      rw [fill_one (vs := [v]) (off := k) (by simp) (h1 v (by simp)) (by simp; omega)]
      have hs : spl (pre ++ x :: post) k [v] = (pre ++ [v]) ++ post := by
        simp only [spl, List.length_singleton]
        rw [List.take_append_of_le_length (by omega), List.take_of_length_le (by omega), List.drop_append, List.drop_of_length_le (by omega), hk, show k + 1 - k = 1 by omega]
        simp
      rw [hs, ih (k + 1) (pre ++ [v]) post (fun u hu => h1 u (by simp [hu])) (by simpa using hp) (by simp; omega)]
      simp
theorem run_bs1 {P : Program} {w : World} {sz : Nat} {zv : Value} {cs : List Value} (ht : P.underlying t = some (.slice e)) (hz : zO P e = some zv) (hs : szO P e = some sz) (hzs : zv.cells.size = sz) (h0 : 0 < sz) (hsm : sz ≤ 1000) (hv : v.cells = cs.toArray) (hl : cs.length = sz) :
    (Instr.buildSlice t 1 #[(0, v)]).run P w = .ok (.slice (some ⟨w.heap.size, 0, none⟩) 1 1) (w.alloc (.cells cs.toArray e)) := by
  have hf : Instr.fill (fun i => some (i * sz, sz)) ((Array.range (1 * sz)).map (zv.cells[· % zv.cells.size]!)) [(0, v)] = some cs.toArray := by
    have hsz : ((Array.range (1 * sz)).map (zv.cells[· % zv.cells.size]!)).toList.length = sz := by simp
    rw [← Array.toArray_toList (xs := (Array.range (1 * sz)).map _)]
    rw [fill_one (off := 0) (vs := cs) (by simp [hl]) hv (by rw [hsz]; omega)]
    rw [Instr.fill, spl_whole (by rw [hsz, hl])]
  have hsz1 : ¬ (1 * sz > 2 ^ 24) := by omega
  have hsz2 : ¬ (1 * sz = 0) := by omega
  simp only [Instr.buildSlice, Sem.run_bind, run_underlying ht, Result.andThen_ok, run_szO hs]
  rw [if_neg hsz1, if_neg hsz2]
  simp only [Sem.run_bind, Sem.run_pure, run_zO hz, Result.andThen_ok, hf]
  rfl
theorem J.bs1 {sz : Nat} {zv : Value} {cs : List Value} (ho : o.op = .buildSlice t 1 #[(0, x)]) (hg : o.guard = none) (hd : o.dst = some d) (hn : Nat.ble (d + 1) c.n = true) (hx : ev tm x = some v)
    (ht : c.P.underlying t = some (.slice e)) (hz : zO c.P e = some zv) (hs : szO c.P e = some sz) (hzs : zv.cells.size = sz) (h0 : 0 < sz ∧ sz ≤ 1000) (hv : v.cells = cs.toArray) (hl : cs.length = sz)
    (h : ∀ g, J c ops Q l ((d, .slice (some ⟨g, 0, none⟩) 1 1) :: tm) (.box g e cs :: C) F) : J c ops Q (o :: l) tm C F :=
  J.ef (S' := True) hg hd hn fun ac w hag hst => ⟨.slice (some ⟨w.heap.size, 0, none⟩) 1 1, w.alloc (.cells cs.toArray e), by
      have := run_bs1 (P := c.P) (w := w) ht hz hs hzs h0.1 h0.2 hv hl
      simp only [execOp, ho, List.map_toArray, List.map_cons, List.map_nil, hag.ev hx, Sem.run_bind, this]; rfl,
    _, _, hst.push (Fr.alloc _ _ _) (box_new w e cs) (fun k hk => by simp only [Chunk.own, Option.some.injEq] at hk; omega), h _⟩
theorem spl_take {cur vs : List Value} {k N : Nat} (h : k + vs.length ≤ N) : (spl cur k vs).toArray.toList.take N = spl (cur.take N) k vs := by
  by_cases hN : N ≤ cur.length
  · simp only [spl]
    have l1 : (cur.take k ++ vs).length = k + vs.length := by rw [List.length_append, List.length_take]; omega
    rw [List.take_append, List.take_of_length_le (by omega), l1, List.take_take, List.drop_take, Nat.min_eq_left (by omega)]
  · rw [List.take_of_length_le (l := cur) (by omega)]
    apply List.take_of_length_le
    simp [spl]
    omega
/-- arr[lo:] of an own block, its elements of one cell. -/
theorem y_cutarr1 {g n : Nat} {k : IntKind} {a : Int} {xl : Operand} (j : Nat) (ho : o.op = .slice t x (some xl) none none) (ht : c.P.underlying t = some (.array n e)) (hz : szO c.P e = some 1) (hx : ev tm x = some (.pointer (some ⟨g, 0, none⟩))) (hl : ev tm xl = some (.int k a)) (ha : a = j) (h : j < n) :
    Yl c tm C F o (.slice (some ⟨g, j, none⟩) (n - j) (n - j)) := fun ac w hag _ => by
  subst ha
  simp only [execOp, ho, hag.ev hx, hag.ev hl, Option.map_some, Option.map_none, Instr.sliceAt, Sem.run_bind, run_underlying ht, Result.andThen_ok, Instr.sureAddr, Instr.sliceBounds, Sem.run_pure, Option.isSome_none, Bool.false_eq_true, if_false]
  rw [run_sliceBound w k j _ _ (by omega) (by omega)]
  simp only [Result.andThen_ok, run_szO hz, Int.toNat_natCast, Nat.mul_one]
  rw [if_neg (by omega), Addr.add_lit, Nat.zero_add]
/-- A store into a row of one's own. -/
theorem J.storeR {n k cap sz : Nat} {A : Option Addr} {xs vs xs' : List Value} (i : Nat) (ho : o.op = .store t x y) (hg : o.guard = none) (hd : o.dst = none) (hx : ev tm x = some (.pointer (some ((gA A).add k)))) (hy : ev tm y = some v) (hC : C[i]? = some (.row (.slice A n cap) e sz n xs))
    (hv : v.cells = vs.toArray) (hz : szO c.P t = some vs.length) (hl : k + vs.length ≤ xs.length) (h0 : vs ≠ []) (h1 : ∀ u ∈ vs, u.oneCell' = true) (hcs : spl xs k vs = xs')
    (h : J c ops Q l tm (C.set i (.row (.slice A n cap) e sz n xs')) F) : J c ops Q (o :: l) tm C F :=
  J.eu hg hd fun a w ha hs => by
    have hsat : w.ownsRow 0 e sz (.slice A n cap) n xs := hs.get hC
    obtain ⟨hlen, hr⟩ := hsat
    have hvl : vs.length ≠ 0 := by simpa using h0
    rcases hr with ⟨_, rfl⟩ | ⟨g, cap', cur, hsl, hg0, hh, hnc, hcm, hcs', htk⟩
    · rw [Nat.zero_mul] at hlen; omega
    · injection hsl with e1 e2 e3
      subst e1; subst e3
      have hcl : n * sz ≤ cur.size := by rw [hcs']; exact Nat.mul_le_mul_right _ hnc
      have hst : (storeVar t ⟨g, k, none⟩ v).run c.P w = .ok () (w.setRow g (spl cur.toList k vs).toArray) := by
        have := run_storeCells_at c.P g k e vs 0 cur w hh (by omega) h1
        simp [storeVar, run_szO hz, hv, this, spl]
      refine ⟨w.setRow g (spl cur.toList k vs).toArray, ?_, _, _, hs.upd hC (y := .row (.slice (some ⟨g, 0, none⟩) n cap) e sz n xs') (Fr.setRow w g _) ?_ (fun j hj => .inl hj), h⟩
      · have e0 : (gA (some (⟨g, 0, none⟩ : Addr))).add k = ⟨g, k, none⟩ := by simp [gA, Addr.add_lit]
        simp only [execOp, ho, ha.ev hx, ha.ev hy, e0, Instr.storeAt, Instr.sureAddr, Sem.run_bind, Sem.run_pure, Result.andThen_ok, hst]
      · have hln : (spl cur.toList k vs).length = cur.size := by simp [spl]; omega
        refine ⟨by rw [← hcs, ← hlen]; simp [spl]; omega, .inr ⟨g, cap, _, rfl, hg0, setRow_heap w g _ _ e _ hh, hnc, hcm, by simpa [hln] using hcs', ?_⟩⟩
        rw [← hcs, ← htk]
        exact spl_take (by omega)
/-- copy(dst, s): into an own block. -/
theorem J.copyS {g off n m k : Nat} {ty tt : TypeId} {cs : List Value} {s : List UInt8} {cs' : List Value} (i : Nat) (ho : o.op = .call { callee := .builtin .copy, args := #[x, y], argTypes := #[t, ty] }) (hg : o.guard = none) (hd : o.dst = some d) (hn : Nat.ble (d + 1) c.n = true)
    (hx : ev tm x = some (.slice (some ⟨g, off, none⟩) n k)) (hy : ev tm y = some (str s)) (ht : c.P.underlying t = some (.slice e)) (hs : szO c.P e = some 1) (hC : C[i]? = some (.box g tt cs))
    (hm : min s.length n = m) (hl : off + m ≤ cs.length) (hcs : spl cs off ((s.take m).map u8) = cs')
    (h : J c ops Q l ((d, .int .i64 m) :: tm) (C.set i (.box g tt cs')) F) : J c ops Q (o :: l) tm C F :=
  J.ef (S' := True) hg hd hn fun a w ha hst => by
    have hsat := hst.get hC
    have hh : w.heap[g]? = some (.cells cs.toArray tt (0, 0)) := hsat
    refine ⟨.int .i64 m, w.setRow g cs'.toArray, ?_, _, _, hst.upd hC (y := .box g tt cs') (Fr.setRow w g _) (setRow_heap w g _ _ tt _ hh) (fun k hk => .inl hk), h⟩
    have hlen : ((s.take m).map u8).length = m := by rw [List.length_map, List.length_take]; omega
    have hstc := run_storeCells_at c.P g off tt ((s.take m).map u8) 0 cs.toArray w hh (by rw [hlen]; simpa using hl) (by intro u hu; obtain ⟨b, _, rfl⟩ := List.mem_map.1 hu; rfl)
    have hfc : ((⟨s.toArray⟩ : ByteArray).extract 0 m).data.map (fun b => Value.int .u8 b.toNat) = ((s.take m).map u8).toArray := by
      rw [extract_str]
      apply Array.ext'
      simp
      rfl
    have hmm : Nat.min s.length n = m := hm
    simp only [execOp, ho, resolve, invoke, builtin, Sem.run_bind, Sem.run_pure, Result.andThen_ok, List.map_toArray, List.map_cons, List.map_nil, ha.ev hx, ha.ev hy]
    simp only [Builtin.copy_, str, List.getElem?_toArray, List.getElem?_cons_zero, List.getElem?_cons_succ, Sem.run_bind, run_underlying ht, Result.andThen_ok, Builtin.lenOf, Sem.run_pure, size_str, hmm, run_szO hs, Builtin.firstCells, hfc]
    rw [hstc, ← hcs]
    simp [spl, hlen, goInt]
/-! ### []byte(s) -/
theorem J.s2b {s : List UInt8} (ho : o.op = .convert t t' x) (hg : o.guard = none) (hd : o.dst = some d) (hn : Nat.ble (d + 1) c.n = true) (hs : c.P.underlying t = some .string) (ht : c.P.underlying t' = some (.slice e)) (he : c.P.underlying e = some (.int .u8)) (hx : ev tm x = some (str s)) (hl : s.length ≤ 4000000000000)
    (h : ∀ A k, J c ops Q l ((d, .slice A s.length k) :: tm) (.fro (.slice A s.length k) e s.length (s.map u8) :: C) F) : J c ops Q (o :: l) tm C F :=
  J.ef (S' := True) hg hd hn fun a w ha hst => by
    have hr := run_bytes_of_string (P := c.P) w t t' e ⟨s.toArray⟩ hs ht he
    rw [size_str] at hr
    have hge : s.length ≤ grownCap w s.length 0 e := grownCap_ge w s.length 0 e
    have hbs : (bytesRow ⟨s.toArray⟩ (grownCap w s.length 0 e)).size = grownCap w s.length 0 e := by
      simp only [bytesRow, Array.size_append, Array.size_map, Array.size_replicate, size_str]
      simp
      omega
    have hall : Fr No w (w.drew.alloc (.cells (bytesRow ⟨s.toArray⟩ (grownCap w s.length 0 e)) e ((bytesRow ⟨s.toArray⟩ (grownCap w s.length 0 e)).size, (bytesRow ⟨s.toArray⟩ (grownCap w s.length 0 e)).size + 1))) :=
      ⟨rfl, rfl, rfl, by simp, fun k hk _ => heap_alloc_old w.drew _ hk⟩
    refine ⟨_, _, ?_, _, _, hst.push hall (x := .fro (.slice (some ⟨w.heap.size, 0, none⟩) s.length (grownCap w s.length 0 e)) e s.length (s.map u8)) (.inl ⟨by simp, w.heap.size, _, by rw [hbs], heap_alloc_new w.drew _, by rw [hbs]; exact hge, by
        rw [hbs]; exact grownCap_le_maxLen w _ 0 e (by unfold maxLen; omega), ?_⟩) (fun k hk => by simp only [Chunk.own, Value.ownBlock, Option.some.injEq] at hk; omega), h _ _⟩
    · simp only [execOp, ho, ha.ev hx, str, Sem.run_bind, hr]; rfl
    · simp only [bytesRow, Array.toList_append, Array.toList_map, Array.toList_replicate]
      rw [List.take_append_of_le_length (by simp), List.take_of_length_le (by simp)]
      simp [u8]
theorem storeCells_fro (P : Program) (g o : Nat) (t : TypeId) (z : Nat × Nat) : ∀ (vs : List Value) (i : Nat) (cur : Array Value) (w : World), w.heap[g]? = some (.cells cur t z) → o + i + vs.length ≤ cur.size → cur.size ≤ z.1 → (∀ v ∈ vs, v.oneCell' = true) →
    ∃ w', (storeCells ⟨g, o, none⟩ vs i).run P w = .ok () w' ∧ w'.heap[g]? = some (.cells (cur.toList.take (o + i) ++ vs ++ cur.toList.drop (o + i + vs.length)).toArray t z) ∧ Fr (fun k => some g = some k) w w'
  | [], i, cur, w, hg, _, _, _ => ⟨w, rfl, by simpa using hg, Fr.refl _ _⟩
  | v :: rest, i, cur, w, hg, hl, hz, h1 => by
    have hi : o + i < cur.size := by simp at hl; omega
    have hadd : (⟨g, o, none⟩ : Addr).add i = ⟨g, o + i, none⟩ := by unfold Addr.add; split <;> simp_all
    have hcell : w.cell? ⟨g, o + i, none⟩ = some cur[o + i] := by simp [World.cell?, hg, hi]
    have hfro : w.frozen? ⟨g, o + i, none⟩ = false := by
      simp only [World.frozen?, hg]
      simp; omega
    have hset : (w.setCell ⟨g, o + i, none⟩ v).heap[g]? = some (.cells (cur.setIfInBounds (o + i) v) t z) := by
      simp only [World.setCell, Array.getElem?_modify, if_true, hg]
      rfl
    have hst : (store ((⟨g, o, none⟩ : Addr).add i) v).run P w = .ok () (w.setCell ⟨g, o + i, none⟩ v) := by
      rw [hadd, run_store P w _ v _ (h1 v (by simp)), hcell]
      simp [hfro]
    obtain ⟨w', h2, h3, h4⟩ := storeCells_fro P g o t z rest (i + 1) (cur.setIfInBounds (o + i) v) (w.setCell ⟨g, o + i, none⟩ v) hset (by simp at hl ⊢; omega) (by simpa using hz) (fun x hx => h1 x (by simp [hx]))
    refine ⟨w', by simp only [storeCells, Sem.run_bind, hst, Result.andThen_ok, h2], ?_, ((Fr.setCell w ⟨g, o + i, none⟩ v).mono fun k hk => by rw [hk]).trans h4⟩
    rw [h3]
    congr 3
    have e := list_seg_step cur.toList (o + i) v rest (by simp at hl ⊢; omega)
    simpa [Array.toList_setIfInBounds, Nat.add_assoc] using e
theorem J.appendB {n m n' kc by' : Nat} {zv : Value} {xs news xs' : List Value} (i : Nat) (ho : o.op = .call { callee := .builtin .append, args := #[x, y], argTypes := #[t, t] }) (hg : o.guard = none) (hd : o.dst = some d) (hn : Nat.ble (d + 1) c.n = true)
    (hx : ev tm x = some v) (hy : ev tm y = some (.slice (some ⟨kc, 0, none⟩) m m)) (ht : c.P.underlying t = some (.slice e)) (hz : zO c.P e = some zv) (hs : szO c.P e = some 1) (hb : byO c.P e = some by') (hzs : zv.cells.size = 1)
    (hC : C[i]? = some (.fro v e n xs)) (hl : news.length = m) (hsl : ∀ w, St c w C F → At w ⟨kc, 0, none⟩ news) (h1 : ∀ u ∈ news, u.oneCell' = true) (hm : n + m ≤ 4000000000000) (hby : by' ≤ 35) (hn' : n + m = n') (hxs' : xs ++ news = xs')
    (h : ∀ A k, J c ops Q l ((d, .slice A n' k) :: tm) (C.set i (.fro (.slice A n' k) e n' xs')) F) : J c ops Q (o :: l) tm C F := by
  subst hn'; subst hxs'
  exact J.ef (S' := True) hg hd hn fun a w ha hst => by
    have hbb : (n + m) * by' ≤ 140737488355328 := Nat.le_trans (Nat.mul_le_mul hm hby) (by decide)
    have hml : n + m ≤ maxLen := by unfold maxLen; omega
    have hnews : ∀ j u, news[j]? = some u → w.cell? ((⟨kc, 0, none⟩ : Addr).add j) = some u := hsl w hst
    obtain ⟨ti, hi, hiz, his, hib⟩ := info_of hz hs hb
    have hex : ∀ q : Result Value, (Builtin.append_ #[t, t] o.type #[v, .slice (some ⟨kc, 0, none⟩) m m]).run c.P w = q → ∀ v' w', q = .ok v' w' → (execOp a.eval o).run c.P w = .ok (.value v') w' := by
      rintro _ rfl v' w' hq
      simp only [execOp, ho, resolve, invoke, builtin, Sem.run_bind, Sem.run_pure, Result.andThen_ok, List.map_toArray, List.map_cons, List.map_nil, ha.ev hx, ha.ev hy, hq]
    rcases hst.get hC with ⟨hlen, g, cur, rfl, hh, hnc, hcm, htk⟩ | hrow
    · by_cases hroom : n + m ≤ cur.size
      · have hf := run_firstCells_some (P := c.P) w 1 m ⟨kc, 0, none⟩ m m news (by omega) hnews
        obtain ⟨w', h2, h3, h4⟩ := storeCells_fro c.P g n e (cur.size, cur.size + 1) news 0 cur w hh (by omega) (Nat.le_refl _) h1
        have hln : (cur.toList.take n ++ news ++ cur.toList.drop (n + news.length)).length = cur.size := by simp; omega
        have hsz : (cur.toList.take n ++ news ++ cur.toList.drop (n + news.length)).toArray.size = cur.size := List.size_toArray.trans hln
        refine ⟨.slice (some ⟨g, 0, none⟩) (n + m) cur.size, w', hex _ rfl _ _ ?_, _, _, hst.upd hC (y := .fro (.slice (some ⟨g, 0, none⟩) (n + m) cur.size) e (n + m) (xs ++ news)) h4 (.inl ⟨by simp; omega, g, (cur.toList.take n ++ news ++ cur.toList.drop (n + news.length)).toArray, by rw [hsz], by
            rw [h3, hsz]; rfl, by rw [hsz]; omega, by rw [hsz]; omega, ?_⟩) (fun k hk => .inl hk), h _ _⟩
        · simp [Builtin.append_, run_underlying ht, sizeOf, typeInfo, hi, his, Builtin.lenOf, hroom, hf, Addr.add_lit, h2]
        · simp only [List.toList_toArray]
          rw [htk, List.take_append_of_le_length (by simp; omega), List.take_of_length_le (by simp; omega)]
      · have holds : ∀ j u, xs[j]? = some u → w.cell? ((⟨g, 0, none⟩ : Addr).add j) = some u := fun j u hj => by
          rw [Addr.add_lit, Nat.zero_add, cell_of_row w g j _ e _ hh]
          rw [← htk, List.getElem?_take] at hj
          split at hj
          · simpa using hj
          · cases hj
        have hr := run_append_grow (P := c.P) w t o.type e ti zv ht hi hiz ⟨g, 0, none⟩ n cur.size xs (by rw [his]; omega) holds ⟨kc, 0, none⟩ m m news (by rw [his]; omega) hnews (by omega) (by omega) (growslice_fits (by omega) (by rw [hib]; exact hbb))
        have hge := grownCap_ge w (n + m) cur.size e
        refine ⟨_, _, hex _ rfl _ _ hr, _, _, hst.upd hC (y := .fro (.slice (some ⟨w.heap.size, 0, none⟩) (n + m) (grownCap w (n + m) cur.size e)) e (n + m) (xs ++ news)) (Fr.grown ⟨rfl, rfl, rfl, by simp, fun k hk _ => heap_alloc_old w.drew _ hk⟩) (.inr ⟨by simp; omega, .inr ⟨w.heap.size, _, _, rfl, Nat.zero_le _, heap_alloc_new w.drew _, hge, grownCap_le_maxLen w _ _ e hml, ?_, ?_⟩⟩) (fun k hk => by simp only [Chunk.own, Value.ownBlock, Option.some.injEq] at hk; exact .inr (by omega)), h _ _⟩
        · simp only [Array.size_append, List.size_toArray, size_zeroCells, hzs]; omega
        · simp only [Array.toList_append, List.append_assoc, List.toList_toArray]
          rw [← List.append_assoc, List.take_append_of_le_length (by simp; omega), List.take_of_length_le (by simp; omega)]
    · obtain ⟨v', w', hr, hrow', hgr, hbl⟩ := run_append' (P := c.P) (w := w) (ty := o.type) (kc := m) (B := some ⟨kc, 0, none⟩) ht hz hs hb hzs (by decide) hrow (by omega) (.inr ⟨rfl, hnews⟩) h1 hml hbb
      obtain ⟨A, k, rfl, hA, _⟩ := slice_of_row hrow'
      refine ⟨_, w', hex _ rfl _ _ hr, _, _, hst.upd hC (y := .fro (.slice A (n + m) k) e (n + m) (xs ++ news)) (Fr.grown hgr) (.inr hrow') (fun g hg' => ?_), h A k⟩
      rcases hbl with h' | h'
      · exact .inl (show v.ownBlock = some g from h'.symm.trans hg')
      · simp only [Chunk.own] at hg'; rw [h'] at hg'; injection hg' with hg'; exact .inr (by omega)
theorem Sl.of_fro {w : World} {A : Option Addr} {n k : Nat} {xs : List Value} (h : (Chunk.fro (.slice A n k) e n xs).sat w) : Sl w A xs := by
  rcases h with ⟨h1, g, cur, hv, hh, hnc, hcm, htk⟩ | h
  · injection hv with e1 e2 e3
    subst e1
    refine .inr ⟨rfl, fun j u hj => ?_⟩
    simp only [gA, Option.getD_some]
    rw [Addr.add_lit, Nat.zero_add, cell_of_row w g j _ e _ hh]
    rw [← htk, List.getElem?_take] at hj
    split at hj
    · simpa using hj
    · cases hj
  · exact Sl.of_row h
/-- An element of a slice, loaded. -/
theorem y_lsl {A : Option Addr} {k : Nat} {xs : List Value} (ho : o.op = .load t x) (hg : aggO c.P t = some false) (hx : ev tm x = some (.pointer (some ((gA A).add k)))) (hr : ∀ w, St c w C F → Sl w A xs) (hv : xs[k]? = some v) : Yl c tm C F o v :=
  y_load1 ho hg hx fun w hs => (((hr w hs).at_ (by rintro rfl; cases hv)) k v hv)
theorem y_lslA {A : Option Addr} {k : Nat} {xs vs : List Value} (ho : o.op = .load t x) (hg : aggO c.P t = some true) (hs : szO c.P t = some vs.length) (hx : ev tm x = some (.pointer (some ((gA A).add k)))) (hr : ∀ w, St c w C F → Sl w A xs) (hv : (xs.drop k).take vs.length = vs) (h0 : vs ≠ []) : Yl c tm C F o (.agg vs.toArray) :=
  y_loadA ho hg hs hx fun w hst => ((hr w hst).at_ (by rintro rfl; simp at hv; exact h0 (by first | exact hv | exact hv.symm))).sub hv
theorem get_mul_one {xs : List Value} {j : Nat} {v : Value} (h : xs[j]? = some v) : xs[j * 1]? = some v := by rwa [Nat.mul_one]
theorem get_bytes {l : List UInt8} {j : Nat} (h : j < l.length) : (l.map u8)[j * 1]? = some (u8 (l.getD j 0)) := by
  rw [Nat.mul_one, List.getElem?_map, List.getElem?_eq_getElem h, List.getD_eq_getElem?_getD, List.getElem?_eq_getElem h]; rfl
/-! ### literals of arrays and structs -/
def evp (tm : Env) : List (Nat × Operand) → Option (List (Nat × Value))
  | [] => some []
  | p :: r => match ev tm p.2, evp tm r with
    | some v, some vs => some ((p.1, v) :: vs)
    | _, _ => none
theorem Ag.evp {n : Nat} {a : Act} {tm : Env} {xs : List (Nat × Operand)} {vs : List (Nat × Value)} (h : Ag n a tm) (hx : evp tm xs = some vs) : (xs.map fun p => (p.1, a.eval p.2)) = vs := by
  induction xs generalizing vs with
  | nil => cases hx; rfl
  | cons x r ih =>
    simp only [Sx.evp] at hx
    split at hx
    · rename_i v us h1 h2
      injection hx with hx
      subst hx
      rw [List.map_cons, h.ev h1, ih h2]
    · cases hx
/-- Where a struct's fields lie. -/
def plO (P : Program) (t : TypeId) : Option (List (Nat × Nat)) := match P.underlying t with
  | some (.struct fields) => fields.toList.mapM fun f => (szO P f.type).map fun n => (f.offset, n)
  | _ => none
theorem run_places {P : Program} {w : World} {fields : List Field} {pl : List (Nat × Nat)} (h : (fields.mapM fun f => (szO P f.type).map fun n => (f.offset, n)) = some pl) :
    ((fields.mapM fun f => do pure (f.offset, ← sizeOf f.type)) : Sem (List (Nat × Nat))).run P w = .ok pl w := by
  induction fields generalizing pl with
  | nil => cases h; rfl
  | cons f r ih =>
    rw [List.mapM_cons] at h
    cases hs : szO P f.type with
    | none => rw [hs] at h; cases h
    | some n =>
      rw [hs] at h
      cases hr : (r.mapM fun f => (szO P f.type).map fun n => (f.offset, n)) with
      | none => rw [hr] at h; cases h
      | some pl' =>
        rw [hr] at h
        cases h
        rw [List.mapM_cons]
        simp only [Sem.run_bind, run_szO hs, Result.andThen_ok, Sem.run_pure, ih hr]
theorem y_buildA {parts : Array (Nat × Operand)} {n sz : Nat} {zs cs : List Value} {ps : List (Nat × Value)} (ho : o.op = .build t parts) (ht : c.P.underlying t = some (.array n e)) (hz : zO c.P t = some (.agg zs.toArray)) (hs : szO c.P e = some sz) (hp : evp tm parts.toList = some ps)
    (hf : Instr.fill (fun i => some (i * sz, sz)) zs.toArray ps = some cs.toArray) : Yl c tm C F o (.agg cs.toArray) := fun a w ha _ => by
  have h1 : (parts.map fun (i, x) => (i, a.eval x)).toList = ps := by
    rw [Array.toList_map]; exact ha.evp hp
  simp only [execOp, ho, Instr.build, Sem.run_bind, run_zO hz, Result.andThen_ok, run_underlying ht, run_szO hs, Value.cells, h1, hf]
  rfl
theorem y_buildS {parts : Array (Nat × Operand)} {pl : List (Nat × Nat)} {zs cs : List Value} {ps : List (Nat × Value)} (ho : o.op = .build t parts) (ht : plO c.P t = some pl) (hz : zO c.P t = some (.agg zs.toArray)) (hp : evp tm parts.toList = some ps)
    (hf : Instr.fill (fun i : Nat => pl[i]?) zs.toArray ps = some cs.toArray) : Yl c tm C F o (.agg cs.toArray) := fun a w ha _ => by
  unfold plO at ht
  split at ht
  · rename_i fields hu
    have h1 : (parts.map fun (i, x) => (i, a.eval x)).toList = ps := by
      rw [Array.toList_map]; exact ha.evp hp
    have h2 := run_places (w := w) ht
    simp only [execOp, ho, Instr.build, Sem.run_bind, run_zO hz, Result.andThen_ok, hu, run_underlying hu, Value.cells, h1, Array.mapM_eq_mapM_toList]
    have h3 : (fun x : Nat => pl.toArray[x]?) = fun i : Nat => pl[i]? := by funext i; simp
    simp only [Sem.run_map, h2, Sem.run_bind, Sem.run_pure, Result.andThen_ok, h3, hf]
  · cases ht
end
end Go.Sx
