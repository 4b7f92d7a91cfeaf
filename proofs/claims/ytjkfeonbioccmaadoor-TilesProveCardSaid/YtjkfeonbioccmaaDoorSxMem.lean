/- Speculum proofs: the laws of operations that read or write memory. -/
import Derived.Test.YtjkfeonbioccmaaDoorSxOps
namespace Go.Sx
open Go Go.RowKit
set_option linter.unusedVariables false
set_option linter.unusedSimpArgs false

def aggO (P : Program) (t : TypeId) : Option Bool := (P.underlying t).map fun d => match d with | .struct _ => true | .array _ _ => true | _ => false
def szO (P : Program) (t : TypeId) : Option Nat := (P.info? t).map (·.size)
def zO (P : Program) (t : TypeId) : Option Value := (P.info? t).bind (·.zero)
def byO (P : Program) (t : TypeId) : Option Nat := (P.info? t).map (·.bytes)
/-- Where a field begins, if it has cells. -/
def fO (P : Program) (s : TypeId) (f : Nat) : Option Nat := match P.underlying s with
  | some (.struct fields) => match fields[f]? with
    | some fd => match szO P fd.type with
      | some (_ + 1) => some fd.offset
      | _ => none
    | none => none
  | _ => none
def gA (A : Option Addr) : Addr := A.getD default
/-- The cells at an address. -/
def At (w : World) (ad : Addr) (vs : List Value) : Prop := ∀ j u, vs[j]? = some u → w.cell? (ad.add j) = some u
/-- A slice's cells. -/
def Sl (w : World) (A : Option Addr) (xs : List Value) : Prop := xs = [] ∨ A.isSome = true ∧ At w (gA A) xs
theorem add_add (a : Addr) (i j : Nat) : (a.add i).add j = a.add (i + j) := by
  unfold Addr.add
  by_cases hi : i = 0 <;> by_cases hj : j = 0 <;> simp [hi, hj, Nat.add_assoc]
theorem At.sub {w : World} {ad : Addr} {xs vs : List Value} {k : Nat} (h : At w ad xs) (hv : (xs.drop k).take vs.length = vs) : At w (ad.add k) vs := fun j u hj => by
  rw [add_add]
  refine h (k + j) u ?_
  rw [← hv] at hj
  rw [List.getElem?_take] at hj
  split at hj
  · rwa [List.getElem?_drop] at hj
  · cases hj
theorem At.one {w : World} {ad : Addr} {v : Value} : At w ad [v] ↔ w.cell? ad = some v := by
  constructor
  · intro h
    have := h 0 v rfl
    simpa [Addr.add] using this
  · intro h j u hj
    match j, hj with
    | 0, hj => simp at hj; subst hj; simpa [Addr.add] using h
theorem Sl.at_ {w : World} {A : Option Addr} {xs : List Value} (h : Sl w A xs) (hn : xs ≠ []) : At w (gA A) xs := (h.resolve_left hn).2
theorem Sl.some_ {w : World} {A : Option Addr} {xs : List Value} (h : Sl w A xs) (hn : xs ≠ []) : A.isSome = true := (h.resolve_left hn).1
/-- s[l:]'s address. -/
def cutA (A : Option Addr) (cap l sz : Nat) : Option Addr := if cap = l then A else A.map (·.add (l * sz))
theorem gA_add (A : Option Addr) (k : Nat) (h : A.isSome = true) : gA (A.map (·.add k)) = (gA A).add k := by
  cases A with
  | none => cases h
  | some a => rfl
theorem Sl.cut {w : World} {A : Option Addr} {xs vs : List Value} (h : Sl w A xs) {cap l sz n : Nat} (hx : xs.length = n * sz) (hnc : n ≤ cap) (hl : l ≤ n) (hv : (xs.drop (l * sz)).take vs.length = vs) : Sl w (cutA A cap l sz) vs := by
  by_cases hv0 : vs = []
  · exact .inl hv0
  · have hxs : xs ≠ [] := by rintro rfl; simp at hv; exact hv0 (by first | exact hv | exact hv.symm)
    refine .inr ?_
    have hs := h.some_ hxs
    have hat := (h.at_ hxs).sub hv
    unfold cutA
    by_cases e : cap = l
    · have : n = l := by omega
      subst this
      rw [← hx, List.drop_length] at hv
      simp at hv
      exact absurd (by first | exact hv | exact hv.symm) hv0
    · rw [if_neg e]
      exact ⟨by simpa using hs, by rw [gA_add _ _ hs]; exact hat⟩
theorem Sl.take {w : World} {A : Option Addr} {xs vs : List Value} (h : Sl w A xs) (hv : xs.take vs.length = vs) : Sl w A vs := by
  by_cases hv0 : vs = []
  · exact .inl hv0
  · have hxs : xs ≠ [] := by rintro rfl; simp at hv; exact hv0 (by first | exact hv | exact hv.symm)
    have := (h.at_ hxs).sub (k := 0) (by simpa using hv)
    simp only [Addr.add_zero'] at this
    exact .inr ⟨h.some_ hxs, this⟩
/-- An own row that is read. -/
theorem Sl.of_row {w : World} {A : Option Addr} {e : TypeId} {sz n k : Nat} {xs : List Value} (h : w.ownsRow 0 e sz (.slice A n k) n xs) : Sl w A xs := by
  by_cases hx : xs = []
  · exact .inl hx
  · refine .inr ?_
    rcases h.2 with ⟨hv, rfl⟩ | ⟨g, cap, cur, hv, hg, hh, r⟩
    · have h0 := h.1
      simp at h0
      exact absurd h0 hx
    · injection hv with h1
      subst h1
      exact ⟨rfl, h.cells (g := g) rfl⟩
theorem At.box {w : World} {g : Nat} {t : TypeId} {cs : List Value} (h : (Chunk.box g t cs).sat w) : At w ⟨g, 0, none⟩ cs := fun j u hj => by
  have hh : w.heap[g]? = some (.cells cs.toArray t (0, 0)) := h
  rw [Addr.add_lit, Nat.zero_add, cell_of_row w g j _ t _ hh]
  simpa using hj
theorem At.boxo {w : World} {g off : Nat} {t : TypeId} {cs vs : List Value} (h : (Chunk.box g t cs).sat w) (hv : (cs.drop off).take vs.length = vs) : At w ⟨g, off, none⟩ vs := by
  have := (At.box h).sub hv
  rwa [Addr.add_lit, Nat.zero_add] at this

section
variable {P : Program} {w : World} {t : TypeId}
theorem run_isAgg {b : Bool} (h : aggO P t = some b) : (isAgg t).run P w = .ok b w := by
  unfold aggO at h
  cases hu : P.underlying t with
  | none => simp [hu] at h
  | some d =>
    simp only [hu, Option.map_some, Option.some.injEq] at h
    subst h
    unfold isAgg
    rw [Sem.run_bind, run_underlying hu w]
    cases d <;> rfl
theorem run_szO {n : Nat} (h : szO P t = some n) : (sizeOf t).run P w = .ok n w := by
  unfold szO at h
  cases hi : P.info? t with
  | none => simp [hi] at h
  | some i =>
    simp only [hi, Option.map_some, Option.some.injEq] at h
    subst h
    simp [sizeOf, typeInfo, hi]
theorem run_zO {v : Value} (h : zO P t = some v) : (zeroValue t).run P w = .ok v w := by
  unfold zO at h
  cases hi : P.info? t with
  | none => simp [hi] at h
  | some i =>
    simp only [hi, Option.bind_some] at h
    simp [zeroValue, typeInfo, hi, h]
theorem run_load1 {ad : Addr} {v : Value} (h : aggO P t = some false) (hc : w.cell? ad = some v) : (loadVar t ad).run P w = .ok v w := by
  simp [loadVar, run_isAgg h, run_load, hc]
theorem run_loadA {ad : Addr} {vs : List Value} (h : aggO P t = some true) (hs : szO P t = some vs.length) (hc : At w ad vs) : (loadVar t ad).run P w = .ok (.agg vs.toArray) w := by
  simp [loadVar, run_isAgg h, run_szO hs, run_loadCells_list (P := P) w ad vs hc]
end

section
variable {c : Cx} {ops : Array Oper} {Q : Exit → Act → World → Prop} {tm tm' : Env} {C C' : List Chunk} {F F' : World → Prop} {l : List Oper} {o : Oper} {v v' vx vy : Value} {x y z : Operand} {t t' e : TypeId} {d : Nat}
/-- An operation, by what it computes over a world. -/
theorem y_load1 {ad : Addr} (ho : o.op = .load t x) (hg : aggO c.P t = some false) (hx : ev tm x = some (.pointer (some ad))) (hr : ∀ w, St c w C F → w.cell? ad = some v) : Yl c tm C F o v := fun a w ha hs => by
  simp only [execOp, ho, ha.ev hx, Instr.loadAt, Instr.sureAddr, Sem.run_bind, Sem.run_pure, Result.andThen_ok, run_load1 hg (hr w hs)]
theorem y_loadA {ad : Addr} {vs : List Value} (ho : o.op = .load t x) (hg : aggO c.P t = some true) (hs : szO c.P t = some vs.length) (hx : ev tm x = some (.pointer (some ad))) (hr : ∀ w, St c w C F → At w ad vs) : Yl c tm C F o (.agg vs.toArray) := fun a w ha hs' => by
  simp only [execOp, ho, ha.ev hx, Instr.loadAt, Instr.sureAddr, Sem.run_bind, Sem.run_pure, Result.andThen_ok, run_loadA hg hs (hr w hs')]
/-- A cell of an own block. -/
theorem y_lb {g off : Nat} {tt : TypeId} {cs : List Value} (i : Nat) (ho : o.op = .load t x) (hg : aggO c.P t = some false) (hx : ev tm x = some (.pointer (some ⟨g, off, none⟩))) (hC : C[i]? = some (.box g tt cs)) (hv : cs[off]? = some v) : Yl c tm C F o v :=
  y_load1 ho hg hx fun w hs => by
    have hh : w.heap[g]? = some (.cells cs.toArray tt (0, 0)) := hs.get hC
    rw [cell_of_row w g off _ tt _ hh]
    simpa using hv
/-- Cells of an own block. -/
theorem y_lbA {g off : Nat} {tt : TypeId} {cs vs : List Value} (i : Nat) (ho : o.op = .load t x) (hg : aggO c.P t = some true) (hs : szO c.P t = some vs.length) (hx : ev tm x = some (.pointer (some ⟨g, off, none⟩))) (hC : C[i]? = some (.box g tt cs))
    (hv : (cs.drop off).take vs.length = vs) : Yl c tm C F o (.agg vs.toArray) :=
  y_loadA ho hg hs hx fun w hst => At.boxo (hst.get hC) hv
theorem y_fieldp {ad : Addr} {f k : Nat} (ho : o.op = .fieldAddr t x f) (hf : fO c.P t f = some k) (hx : ev tm x = some (.pointer (some ad))) : Yl c tm C F o (.pointer (some (ad.add k))) := fun a w ha hs => by
  unfold fO at hf
  split at hf
  · rename_i fields hu
    split at hf
    · rename_i fd hfd
      split at hf
      · rename_i n hz
        injection hf with hf
        subst hf
        simp only [execOp, ho, ha.ev hx, Instr.fieldAt, Instr.sureAddr, Sem.run_bind, run_underlying hu, Result.andThen_ok, hfd, Sem.run_pure, fieldPlace, run_szO hz]
        rw [if_neg (by omega)]
        simp
      · cases hf
    · cases hf
  · cases hf
/-- A field of an own block. -/
theorem y_fb {g off f k : Nat} (ho : o.op = .fieldAddr t x f) (hf : fO c.P t f = some k) (hx : ev tm x = some (.pointer (some ⟨g, off, none⟩))) : Yl c tm C F o (.pointer (some ⟨g, off + k, none⟩)) :=
  (y_fieldp ho hf hx).to (by rw [Addr.add_lit])
/-- An element's address: of a slice. -/
theorem y_idx {A : Option Addr} {n cap sz : Nat} {k : IntKind} {i : Int} (ho : o.op = .indexAddr t x y) (ht : c.P.underlying t = some (.slice e)) (hz : szO c.P e = some sz) (hx : ev tm x = some (.slice A n cap)) (hy : ev tm y = some (.int k i))
    (h : 0 ≤ i ∧ i < n) (hA : ∀ w, St c w C F → A.isSome = true) : Yl c tm C F o (.pointer (some ((gA A).add (i.toNat * sz)))) := fun a w ha hs => by
  obtain ⟨ad, rfl⟩ := Option.isSome_iff_exists.1 (hA w hs)
  simp only [execOp, ho, ha.ev hx, ha.ev hy, Instr.indexAt, asIntOf, Sem.run_bind, Sem.run_pure, Result.andThen_ok, run_underlying ht]
  rw [if_pos h]
  simp [run_szO hz, gA]
/-- An element's address: of an array in an own block. -/
theorem y_ib {g off n sz : Nat} {k : IntKind} {i : Int} (ho : o.op = .indexAddr t x y) (ht : c.P.underlying t = some (.array n e)) (hz : szO c.P e = some sz) (hx : ev tm x = some (.pointer (some ⟨g, off, none⟩))) (hy : ev tm y = some (.int k i))
    (h : 0 ≤ i ∧ i < n) : Yl c tm C F o (.pointer (some ⟨g, off + i.toNat * sz, none⟩)) := fun a w ha hs => by
  simp only [execOp, ho, ha.ev hx, ha.ev hy, Instr.indexAt, Instr.sureAddr, asIntOf, Sem.run_bind, Sem.run_pure, Result.andThen_ok, run_underlying ht]
  rw [if_pos h]
  simp [run_szO hz, Addr.add_lit]
/-- s[lo:hi], s[:hi], s[lo:] of a slice. -/
theorem y_cut {A : Option Addr} {n cap sz : Nat} {kl kh : IntKind} {a b : Int} {xl xh : Operand} (ho : o.op = .slice t x (some xl) (some xh) none) (ht : c.P.underlying t = some (.slice e)) (hz : szO c.P e = some sz) (hx : ev tm x = some (.slice A n cap))
    (hl : ev tm xl = some (.int kl a)) (hh : ev tm xh = some (.int kh b)) (h : 0 ≤ a ∧ a ≤ b ∧ b ≤ cap) : Yl c tm C F o (.slice (cutA A cap a.toNat sz) (b.toNat - a.toNat) (cap - a.toNat)) := fun ac w ha _ => by
  simp only [execOp, ho, ha.ev hx, Option.map_some, Option.map_none, ha.ev hl, ha.ev hh, Instr.sliceAt, Sem.run_bind, run_underlying ht, Result.andThen_ok, Instr.slice, Instr.sliceBounds, Sem.run_pure, Option.isSome_none, Bool.false_eq_true, if_false]
  rw [run_sliceBound w kh b _ _ (by omega) h.2.2]
  simp only [Result.andThen_ok]
  rw [run_sliceBound w kl a _ _ h.1 (by omega)]
  simp [run_szO hz, cutA]
theorem y_cutto {A : Option Addr} {n cap sz : Nat} {kh : IntKind} {b : Int} {xh : Operand} (ho : o.op = .slice t x none (some xh) none) (ht : c.P.underlying t = some (.slice e)) (hz : szO c.P e = some sz) (hx : ev tm x = some (.slice A n cap))
    (hh : ev tm xh = some (.int kh b)) (h : 0 ≤ b ∧ b ≤ cap) : Yl c tm C F o (.slice A b.toNat cap) := fun ac w ha _ => by
  simp only [execOp, ho, ha.ev hx, Option.map_some, Option.map_none, ha.ev hh, Instr.sliceAt, Sem.run_bind, run_underlying ht, Result.andThen_ok, Instr.slice, Instr.sliceBounds, Sem.run_pure, Option.isSome_none, Bool.false_eq_true, if_false]
  rw [run_sliceBound w kh b _ _ h.1 h.2]
  simp [run_szO hz]
  intro _
  cases A <;> rfl
theorem y_cutfrom {A : Option Addr} {n cap sz : Nat} {kl : IntKind} {a : Int} {xl : Operand} (ho : o.op = .slice t x (some xl) none none) (ht : c.P.underlying t = some (.slice e)) (hz : szO c.P e = some sz) (hx : ev tm x = some (.slice A n cap))
    (hl : ev tm xl = some (.int kl a)) (h : 0 ≤ a ∧ a ≤ n) : Yl c tm C F o (.slice (cutA A cap a.toNat sz) (n - a.toNat) (cap - a.toNat)) := fun ac w ha _ => by
  simp only [execOp, ho, ha.ev hx, Option.map_some, Option.map_none, ha.ev hl, Instr.sliceAt, Sem.run_bind, run_underlying ht, Result.andThen_ok, Instr.slice, Instr.sliceBounds, Sem.run_pure, Option.isSome_none, Bool.false_eq_true, if_false]
  rw [run_sliceBound w kl a _ _ h.1 h.2]
  simp [run_szO hz, cutA]
/-- arr[:] of an own block. -/
theorem y_cutarr {g off n : Nat} (ho : o.op = .slice t x none none none) (ht : c.P.underlying t = some (.array n e)) (hz : (szO c.P e).isSome = true) (hn : n ≠ 0) (hx : ev tm x = some (.pointer (some ⟨g, off, none⟩))) :
    Yl c tm C F o (.slice (some ⟨g, off, none⟩) n n) := fun ac w ha _ => by
  obtain ⟨sz, hz⟩ := Option.isSome_iff_exists.1 hz
  simp only [execOp, ho, ha.ev hx, Option.map_none, Instr.sliceAt, Sem.run_bind, run_underlying ht, Result.andThen_ok, Instr.sureAddr, Instr.sliceBounds, Sem.run_pure, run_szO hz]
  rw [if_neg hn]
  simp [Addr.add]
/-- string(b) -/
theorem y_b2s {A : Option Addr} {k : Nat} {bs : List UInt8} (ho : o.op = .convert t t' x) (ht : c.P.underlying t = some (.slice e)) (he : c.P.underlying e = some (.int .u8)) (ht' : c.P.underlying t' = some .string) (hx : ev tm x = some (.slice A bs.length k))
    (hr : ∀ w, St c w C F → Sl w A (bs.map u8)) : Yl c tm C F o (str bs) := fun ac w ha hs => by
  simp only [execOp, ho, ha.ev hx, Sem.run_bind]
  rcases hr w hs with h0 | ⟨h1, h2⟩
  · have hb : bs = [] := by simpa using h0
    subst hb
    rw [run_convert_bytes_string w t t' e A _ k ht he ht']
    cases A with
    | none => simp [Conv.bytesToString, str, ByteArray.empty, ByteArray.emptyWithCapacity]; rfl
    | some ad => simp [Conv.bytesToString, loadCells, loadCellsFrom, str, ByteArray.empty, ByteArray.emptyWithCapacity]; rfl
  · obtain ⟨ad, rfl⟩ := Option.isSome_iff_exists.1 h1
    rw [run_convert_bytes_back w t t' e ad k bs ht he ht' (by
      intro j hj
      exact h2 j _ (by simp [List.getElem?_eq_getElem hj, u8]))]
    rfl

/-! ### operations that make or write memory -/
/-- An operation that leaves a world: by what it does to the state. -/
theorem J.ef {S' : Prop} (hg : o.guard = none) (hd : o.dst = some d) (hn : Nat.ble (d + 1) c.n = true)
    (h : ∀ a w, Ag c.n a tm → St c w C F → ∃ v w', (execOp a.eval o).run c.P w = .ok (.value v) w' ∧ ∃ C' F', St c w' C' F' ∧ J c ops Q l ((d, v) :: tm) C' F') : J c ops Q (o :: l) tm C F := by
  intro a w ha hs
  obtain ⟨v, w', hr, C', F', hs', hj⟩ := h a w ha hs
  refine wpList_plain hg fun K hK => ?_
  unfold Oper.wp
  rw [hr, Oper.upon_value, hd]
  exact hK _ _ (hj _ w' (ha.put (Nat.le_of_ble_eq_true hn) v) hs')
theorem J.eu (hg : o.guard = none) (hd : o.dst = none)
    (h : ∀ a w, Ag c.n a tm → St c w C F → ∃ w', (execOp a.eval o).run c.P w = .ok .skip w' ∧ ∃ C' F', St c w' C' F' ∧ J c ops Q l tm C' F') : J c ops Q (o :: l) tm C F := by
  intro a w ha hs
  obtain ⟨w', hr, C', F', hs', hj⟩ := h a w ha hs
  refine wpList_plain hg fun K hK => ?_
  unfold Oper.wp
  rw [hr, Oper.upon_skip, hd]
  exact hK _ _ (hj _ w' ha hs')
/-- A store of a cell: its value is of one cell. -/
theorem box_new (w : World) (t : TypeId) (cs : List Value) : (Chunk.box w.heap.size t cs).sat (w.alloc (.cells cs.toArray t)) := heap_alloc_new w _
theorem J.box {cs : List Value} (ho : o.op = .box t x) (hg : o.guard = none) (hd : o.dst = some d) (hn : Nat.ble (d + 1) c.n = true) (hx : ev tm x = some v) (hc : v.cells = cs.toArray)
    (h : ∀ g, J c ops Q l ((d, .pointer (some ⟨g, 0, none⟩)) :: tm) (.box g t cs :: C) F) : J c ops Q (o :: l) tm C F :=
  J.ef (S' := True) hg hd hn fun a w ha hs => ⟨.pointer (some ⟨w.heap.size, 0, none⟩), w.alloc (.cells cs.toArray t), by
      simp only [execOp, ho, ha.ev hx, Instr.box, newVar, newRow, newObj, hc, Sem.run_bind]; rfl,
    _, _, hs.push (Fr.alloc _ _ _) (box_new w t cs) (fun k hk => by simp only [Chunk.own, Option.some.injEq] at hk; omega), h _⟩
theorem J.alloc {cs : List Value} (ho : o.op = .alloc t) (hg : o.guard = none) (hd : o.dst = some d) (hn : Nat.ble (d + 1) c.n = true) (hz : zO c.P t = some v) (hc : v.cells = cs.toArray)
    (h : ∀ g, J c ops Q l ((d, .pointer (some ⟨g, 0, none⟩)) :: tm) (.box g t cs :: C) F) : J c ops Q (o :: l) tm C F :=
  J.ef (S' := True) hg hd hn fun a w ha hs => ⟨.pointer (some ⟨w.heap.size, 0, none⟩), w.alloc (.cells cs.toArray t), by
      simp only [execOp, ho, Instr.alloc, newVar, newRow, newObj, hc, Sem.run_bind, run_zO hz, Result.andThen_ok]; rfl,
    _, _, hs.push (Fr.alloc _ _ _) (box_new w t cs) (fun k hk => by simp only [Chunk.own, Option.some.injEq] at hk; omega), h _⟩
/-- What cells become by a store of vs from off on. -/
def spl (cs : List Value) (off : Nat) (vs : List Value) : List Value := cs.take off ++ vs ++ cs.drop (off + vs.length)
theorem run_storeB {P : Program} {w : World} {g off : Nat} {tt : TypeId} {cs vs : List Value} (hz : szO P t = some vs.length) (hv : v.cells = vs.toArray) (hs : (Chunk.box g tt cs).sat w) (hl : off + vs.length ≤ cs.length) (h1 : ∀ u ∈ vs, u.oneCell' = true) :
    (storeVar t ⟨g, off, none⟩ v).run P w = .ok () (w.setRow g (spl cs off vs).toArray) := by
  have hh : w.heap[g]? = some (.cells cs.toArray tt (0, 0)) := hs
  have := run_storeCells_at P g off tt vs 0 cs.toArray w hh (by simpa using hl) h1
  simp [storeVar, run_szO hz, hv, this, spl]
theorem Fr.setRow (w : World) (g : Nat) (cur : Array Value) : Fr (fun k => some g = some k) w (w.setRow g cur) :=
  ⟨rfl, rfl, rfl, by simp, fun k _ hn => setRow_other w g k cur (fun e => hn (by rw [e]))⟩
theorem J.store {g off : Nat} {tt : TypeId} {cs vs cs' : List Value} (i : Nat) (ho : o.op = .store t x y) (hg : o.guard = none) (hd : o.dst = none) (hx : ev tm x = some (.pointer (some ⟨g, off, none⟩))) (hy : ev tm y = some v) (hC : C[i]? = some (.box g tt cs))
    (hv : v.cells = vs.toArray) (hz : szO c.P t = some vs.length) (hl : off + vs.length ≤ cs.length) (h1 : ∀ u ∈ vs, u.oneCell' = true) (hcs : spl cs off vs = cs')
    (h : J c ops Q l tm (C.set i (.box g tt cs')) F) : J c ops Q (o :: l) tm C F :=
  J.eu hg hd fun a w ha hs => by
    have hsat := hs.get hC
    have hh : w.heap[g]? = some (.cells cs.toArray tt (0, 0)) := hsat
    refine ⟨w.setRow g cs'.toArray, ?_, _, _, hs.upd hC (y := .box g tt cs') (Fr.setRow w g _) (setRow_heap w g _ _ tt _ hh) (fun k hk => .inl hk), h⟩
    rw [← hcs]
    simp only [execOp, ho, ha.ev hx, ha.ev hy, Instr.storeAt, Instr.sureAddr, Sem.run_bind, Sem.run_pure, Result.andThen_ok, run_storeB hz hv hsat hl h1]
end
end Go.Sx
