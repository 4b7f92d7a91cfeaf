/- Speculum proofs: what comes in: bytes, texts, hashes, lists of them; how a statement is closed. -/
/- Speculum proofs: numbers that come in. -/
/- Speculum proofs: slices, ranges that come in. -/
import Derived.Test.YtjkfeonbioccmaaDoorMc
import Derived.Deep.Slices
import Derived.OpenShut
import Derived.Below
import Derived.Carry
import Derived.ChangeSame
import Derived.Test.YtjkfeonbioccmaaDoorMf
namespace Go.Sx
open Go Go.RowKit Go.ChangeShapes Go.WideShapes
set_option linter.unusedVariables false
set_option linter.unusedSimpArgs false
theorem At.append {w : World} {ad : Addr} {xs ys : List Value} (h : At w ad xs) (k : At w (ad.add xs.length) ys) : At w ad (xs ++ ys) := fun j u hj => by
  rcases Nat.lt_or_ge j xs.length with hl | hl
  · rw [List.getElem?_append_left hl] at hj
    exact h j u hj
  · rw [List.getElem?_append_right hl] at hj
    have := k (j - xs.length) u hj
    rwa [add_add, show xs.length + (j - xs.length) = j by omega] at this
theorem At.nil {w : World} {ad : Addr} : At w ad [] := fun j u hj => by cases hj
theorem At.flat {w : World} {a : Addr} {sz : Nat} : ∀ (cs : List (List Value)) (k : Nat), (∀ x ∈ cs, x.length = sz) → (∀ i x, cs[i]? = some x → At w (a.add ((k + i) * sz)) x) → At w (a.add (k * sz)) cs.flatten := by
  intro cs
  induction cs with
  | nil => intro k h1 h2; exact At.nil
  | cons x r ih =>
    intro k h1 h2
    rw [List.flatten_cons]
    refine (h2 0 x rfl).append ?_
    have := ih (k + 1) (fun y hy => h1 y (List.mem_cons_of_mem _ hy)) (fun i y hy => by
      have := h2 (i + 1) y (by simpa using hy)
      rwa [show k + 1 + i = k + (i + 1) by omega])
    rw [add_add, h1 x (List.mem_cons_self ..)]
    rwa [Nat.succ_mul] at this
theorem At.far {w w' : World} {ad : Addr} {xs : List Value} (h : At w ad xs) (hf : Fr No w w') : At w' ad xs := fun j u hj => by
  have h1 := h j u hj
  rw [World.cell?_of_block (hf.block _ ?_ id)]
  · exact h1
  · unfold World.cell? at h1
    rcases Nat.lt_or_ge (ad.add j).block w.heap.size with h2 | h2
    · exact h2
    · rw [Array.getElem?_eq_none h2] at h1
      simp at h1
theorem Sl.far {w w' : World} {A : Option Addr} {xs : List Value} (h : Sl w A xs) (hf : Fr No w w') : Sl w' A xs := by
  rcases h with h | ⟨h1, h2⟩
  · exact .inl h
  · exact .inr ⟨h1, h2.far hf⟩
theorem At.cells {w : World} {base : Nat} {a : Addr} {n : Nat} {cs : List Value} (h : w.cells? base a n = some cs) : At w a cs := fun j u hj => by
  obtain ⟨_, hl, he⟩ := World.cells?_some h
  rcases Nat.lt_or_ge j n with h1 | h1
  · rw [he j h1]; exact hj
  · rw [List.getElem?_eq_none (by omega)] at hj; cases hj
section
variable {Hh : Type} {enc : TypeId × Value → Hh} {P : Program} {w : World} {base b' : Nat} {sp : Nat → Bool} {held : Bool} {T E U : TypeId} {v : Value} {d : DataW Hh} {ps : List MemPlace}
instance : Inhabited H := ⟨H.zero⟩
theorem u8_of {n : Int} (h : (Lit.int .u8 n).wf = true) : Value.int .u8 n = u8 (UInt8.ofNat n.toNat) := by
  have hb := bounds_u8 h
  unfold u8
  rw [UInt8.toNat_ofNat', show ((n.toNat % 2 ^ 8 : Nat) : Int) = n by omega]
/-- 32 bytes are a hash. -/
theorem hash_of_trod {fuel : Nat} {cs : List Value} {x : DataW Hh × List MemPlace} (hE : P.underlying E = some (.array 32 U)) (hU : P.underlying U = some (.int .u8)) (cU : P.cellsOf U = 1) (cE : P.cellsOf E = 32) (h : DataW.trod enc P w base sp held fuel E cs = some x) : ∃ a : H, cs = hc a := by
  obtain ⟨xs, m, rfl, rfl, hl, hn, hel⟩ := DataW.trod_array hE h
  rw [cE] at hl
  have key : ∀ i, i < 32 → ∃ b : UInt8, cs[i]? = some (u8 b) := by
    intro i hi
    have h1 := hel i hi
    rw [cU, Nat.mul_one, List.getElem?_eq_getElem (by omega)] at h1
    obtain ⟨n, e, _, hw⟩ := DataW.trod_int hU h1
    refine ⟨UInt8.ofNat n.toNat, ?_⟩
    have e2 : cs[i]? = ((cs.drop i).take 1)[0]? := by simp
    rw [e2, e, ← u8_of hw]; rfl
  obtain ⟨f, hf⟩ := Go.Deep.choose_lt key
  refine ⟨⟨(List.range 32).map f, by simp⟩, ?_⟩
  apply List.ext_getElem?
  intro i
  rcases Nat.lt_or_ge i 32 with hi | hi
  · rw [hf i hi]
    simp [hc, hi]
  · rw [List.getElem?_eq_none (by omega), List.getElem?_eq_none (by simpa [hc] using hi)]
theorem okWide_arr {n : Nat} (ht : P.underlying T = some (.array n E)) (h : Value.okWide P w .any b' T v) : ∃ cs, v = .agg cs := by
  simp only [Value.okWide, ht] at h
  obtain ⟨cs, rfl, _⟩ := h
  exact ⟨cs, rfl⟩
/-- A hash that comes in. -/
theorem open_hash (hE : P.underlying E = some (.array 32 U)) (hU : P.underlying U = some (.int .u8)) (cU : P.cellsOf U = 1) (cE : P.cellsOf E = 32) (hv' : Value.okWide P w .any b' E v) (h : DataW.Trod enc P w base sp held E v d ps) : ∃ a : H, v = hv a := by
  obtain ⟨cs, rfl⟩ := okWide_arr hE hv'
  obtain ⟨fuel, hf⟩ := h
  obtain ⟨a, e⟩ := hash_of_trod hE hU cU cE hf
  exact ⟨a, by rw [hv, ← e]; simp [Value.cells]⟩
/-- A list of hashes that comes in. -/
theorem open_hashes (hT : P.underlying T = some (.slice E)) (hE : P.underlying E = some (.array 32 U)) (hU : P.underlying U = some (.int .u8)) (cU : P.cellsOf U = 1) (cE : P.cellsOf E = 32) (hv' : Value.okWide P w .any b' T v) (h : DataW.Trod enc P w 0 sp held T v d ps) :
    ∃ (A : Option Addr) (n k : Nat) (l : List H), v = .slice A n k ∧ l.length = n ∧ n ≤ k ∧ k ≤ maxLen ∧ ∀ w', Fr No w w' → Sl w' A (hcs l) := by
  obtain ⟨A, n, k, rfl⟩ := okWide_slice hT hv'
  obtain ⟨fuel, hf⟩ := h
  rcases Go.Deep.open_slice hT hf with ⟨hcs', hx⟩ | ⟨a, len, cap, m, n', D, Pl, hcs', _, hl, hm, hmm, hx, hel⟩
  · simp only [Value.cells, List.cons.injEq, Value.slice.injEq, and_true] at hcs'
    obtain ⟨rfl, rfl, rfl⟩ := hcs'
    exact ⟨none, 0, 0, [], rfl, rfl, Nat.le_refl _, Nat.zero_le _, fun _ _ => .inl rfl⟩
  · simp only [Value.cells, List.cons.injEq, Value.slice.injEq, and_true] at hcs'
    obtain ⟨rfl, rfl, rfl⟩ := hcs'
    have key : ∀ i, i < n → ∃ x : H, At w (a.add (i * 32)) (hc x) := by
      intro i hi
      obtain ⟨cs', h1, h2⟩ := hel i (by rw [hmm]; split <;> omega)
      obtain ⟨x, rfl⟩ := hash_of_trod hE hU cU cE h2
      rw [cE] at h1
      exact ⟨x, At.cells h1⟩
    obtain ⟨f, hf'⟩ := Go.Deep.choose_lt key
    refine ⟨some a, n, k, (List.range n).map f, rfl, by simp, hl, hm, fun w' hfr => .inr ⟨rfl, ?_⟩⟩
    have := At.flat (w := w) (a := a) (sz := 32) (((List.range n).map f).map hc) 0 (fun x hx => by
      obtain ⟨y, _, rfl⟩ := List.mem_map.1 hx
      exact hcl y) (fun i x hx => by
      rw [List.map_map, List.getElem?_map] at hx
      obtain ⟨i', hi', rfl⟩ := Option.map_eq_some_iff.1 hx
      obtain ⟨hlt, hi''⟩ := List.getElem?_eq_some_iff.1 hi'
      simp only [List.getElem_range] at hi''
      subst hi''
      rw [Nat.zero_add]
      exact hf' i (by simpa using hlt))
    rw [Nat.zero_mul] at this
    have e : ((((List.range n).map f).map hc)).flatten = hcs ((List.range n).map f) := by rw [hcs, List.flatMap_def]
    rw [e] at this
    simp only [gA, Option.getD_some]
    have h0 : a.add 0 = a := by unfold Addr.add; simp
    rw [h0] at this
    exact this.far hfr
/-- A struct's fields. -/
theorem struct_field {fs : Array Field} {fuel : Nat} {cs : List Value} {x : DataW Hh × List MemPlace} (ht : P.underlying T = some (.struct fs)) (h : DataW.trod enc P w base sp held fuel T cs = some x) (i : Nat) (f : Field) (hf : fs[i]? = some f) :
    ∃ fuel' y, DataW.trod enc P w base sp held fuel' f.type ((cs.drop f.offset).take (P.cellsOf f.type)) = some y := by
  obtain ⟨xs, n, _, _, _, hl, hel⟩ := DataW.trod_struct ht h
  have hi : i < fs.size := (Array.getElem?_eq_some_iff.1 hf).1
  refine ⟨n, xs[i], ?_⟩
  rw [hel i f hf, List.getElem?_eq_getElem (by omega)]
theorem struct_len {fs : Array Field} {fuel : Nat} {cs : List Value} {x : DataW Hh × List MemPlace} (ht : P.underlying T = some (.struct fs)) (h : DataW.trod enc P w base sp held fuel T cs = some x) : cs.length = P.cellsOf T := by
  obtain ⟨_, _, _, _, hl, _, _⟩ := DataW.trod_struct ht h
  exact hl
theorem okWide_struct {fs : Array Field} (ht : P.underlying T = some (.struct fs)) (h : Value.okWide P w .any b' T v) : ∃ cs, v = .agg cs := by
  simp only [Value.okWide, ht] at h
  obtain ⟨cs, rfl, _⟩ := h
  exact ⟨cs, rfl⟩
theorem parts4 (cs : List Value) (a b c d : Nat) (h : cs.length = a + b + c + d) : cs = cs.take a ++ ((cs.drop a).take b ++ ((cs.drop (a + b)).take c ++ (cs.drop (a + b + c)).take d)) := by
  rw [List.take_of_length_le (l := cs.drop (a + b + c)) (by rw [List.length_drop]; omega)]
  have e1 : cs.drop (a + b + c) = (cs.drop (a + b)).drop c := by rw [List.drop_drop]
  have e2 : cs.drop (a + b) = (cs.drop a).drop b := by rw [List.drop_drop]
  rw [e1, List.take_append_drop, e2, List.take_append_drop, List.take_append_drop]
/-- Where a law begins: nothing is its own, and what it reads stays. -/
theorem St.begin {n : Nat} {Gl F : World → Prop} (hG : ∀ w', Fr No w w' → Gl w') (hF : ∀ w', Fr No w w' → F w') : St ⟨n, P, fun _ => False, fun _ => False, w, Gl⟩ w [] F :=
  ⟨fun _ h => h.elim, fun _ h => h.elim, Fr.refl _ _, fun _ h => (by cases h), fun _ h => (by cases h), List.Pairwise.nil, fun w' hf => by
    have h0 : Fr No w w' := hf.mono fun k hk => by
      rcases hk with hk | ⟨x, hx, _⟩
      · exact hk
      · cases hx
    exact ⟨hG w' h0, hF w' h0⟩⟩
theorem trodAll_below (hl : laidOutB P = true) {W W' : World} (hb : Below W.heap.size W W') (sp' : Nat → Bool) : ∀ {ts : List TypeId} {vs : List Value} {ds : List (DataW Hh)} {ps : List MemPlace}, (∀ t ∈ ts, P.readableRec t = true ∧ t < P.types.size) →
    DataW.TrodAll enc P W 0 (fun _ => true) true ts vs ds ps → (∀ p ∈ ps, p.block < W.heap.size ∧ sp' p.block = true) → DataW.TrodAll enc P W' 0 sp' true ts vs ds ps
  | [], [], [], _, _, h, _ => h
  | t :: ts, v :: vs, d :: ds, _, hT, ⟨p, q, h1, h2, e⟩, hs => by
    subst e
    refine ⟨p, q, ?_, trodAll_below hl hb sp' (fun t ht => hT t (List.mem_cons_of_mem _ ht)) h2 (fun x hx => hs x (List.mem_append_right _ hx)), rfl⟩
    obtain ⟨hr, hrow⟩ := hT t (List.mem_cons_self ..)
    exact WideElems.Trod_stays hl hr hrow h1 (fun x hx => hb.same (hs x (List.mem_append_left _ hx)).1) (fun x hx => (hs x (List.mem_append_left _ hx)).2)
  | [], [], _ :: _, _, _, h, _ => h.elim
  | [], _ :: _, _, _, _, h, _ => h.elim
  | _ :: _, [], _, _, _, h, _ => h.elim
  | _ :: _, _ :: _, [], _, _, h, _ => h.elim
end
end Go.Sx
namespace Go.Sx
open Go Go.RowKit Go.WideShapes Go.ChangeShapes
set_option linter.unusedVariables false
set_option linter.unusedSimpArgs false
variable {Hh : Type} {P : Program} {enc : TypeId × Value → Hh} {w : World} {base b' : Nat} {sp : Nat → Bool} {held : Bool} {v : Value} {d : DataW Hh} {ps : List MemPlace} {E U : TypeId}
theorem two_of_trod {fuel : Nat} {cs : List Value} {x : DataW Hh × List MemPlace} (hE : P.underlying E = some (.array 2 U)) (hU : P.underlying U = some (.int .i64)) (cU : P.cellsOf U = 1) (cE : P.cellsOf E = 2) (h : DataW.trod enc P w base sp held fuel E cs = some x) : ∃ a b : Int, in64 a ∧ in64 b ∧ cs = [.int .i64 a, .int .i64 b] := by
  obtain ⟨xs, m, rfl, rfl, hl, hn, hel⟩ := DataW.trod_array hE h
  rw [cE] at hl
  have hw64 : ∀ n : Int, (Lit.int .i64 n).wf = true → in64 n := fun n h => by
    simp [Lit.wf, IntKind.min, IntKind.max, IntKind.signed, IntKind.bits] at h
    unfold in64; omega
  have key : ∀ i, i < 2 → ∃ n : Int, in64 n ∧ cs[i]? = some (.int .i64 n) := by
    intro i hi
    have h1 := hel i hi
    rw [cU, Nat.mul_one, List.getElem?_eq_getElem (by omega)] at h1
    obtain ⟨n, e, _, hw⟩ := DataW.trod_int hU h1
    refine ⟨n, hw64 n hw, ?_⟩
    have e2 : cs[i]? = ((cs.drop i).take 1)[0]? := by simp
    rw [e2, e]; rfl
  obtain ⟨a, ha, e0⟩ := key 0 (by decide)
  obtain ⟨b, hb, e1⟩ := key 1 (by decide)
  refine ⟨a, b, ha, hb, ?_⟩
  match cs, hl, e0, e1 with
  | [x, y], _, e0, e1 =>
    simp at e0 e1
    rw [e0, e1]
theorem open_two (hE : P.underlying E = some (.array 2 U)) (hU : P.underlying U = some (.int .i64)) (cU : P.cellsOf U = 1) (cE : P.cellsOf E = 2) (hv' : Value.okWide P w .any b' E v) (h : DataW.Trod enc P w base sp held E v d ps) : ∃ a b : Int, in64 a ∧ in64 b ∧ v = kv a b := by
  obtain ⟨cs, rfl⟩ := Go.Sx.okWide_arr hE hv'
  obtain ⟨fuel, hf⟩ := h
  obtain ⟨a, b, ha, hb, e⟩ := two_of_trod hE hU cU cE hf
  exact ⟨a, b, ha, hb, by rw [kv, ← e]; simp [Value.cells]⟩
/-- Two bytes. -/
def kv8 (a b : UInt8) : Value := .agg #[u8 a, u8 b]
theorem two8_of_trod {fuel : Nat} {cs : List Value} {x : DataW Hh × List MemPlace} (hE : P.underlying E = some (.array 2 U)) (hU : P.underlying U = some (.int .u8)) (cU : P.cellsOf U = 1) (cE : P.cellsOf E = 2) (h : DataW.trod enc P w base sp held fuel E cs = some x) : ∃ a b : UInt8, cs = [u8 a, u8 b] := by
  obtain ⟨xs, m, rfl, rfl, hl, hn, hel⟩ := DataW.trod_array hE h
  rw [cE] at hl
  have key : ∀ i, i < 2 → ∃ n : UInt8, cs[i]? = some (u8 n) := by
    intro i hi
    have h1 := hel i hi
    rw [cU, Nat.mul_one, List.getElem?_eq_getElem (by omega)] at h1
    obtain ⟨n, e, _, hw⟩ := DataW.trod_int hU h1
    refine ⟨UInt8.ofNat n.toNat, ?_⟩
    have e2 : cs[i]? = ((cs.drop i).take 1)[0]? := by simp
    rw [e2, e, ← u8_of hw]; rfl
  obtain ⟨a, e0⟩ := key 0 (by decide)
  obtain ⟨b, e1⟩ := key 1 (by decide)
  refine ⟨a, b, ?_⟩
  match cs, hl, e0, e1 with
  | [x, y], _, e0, e1 =>
    simp at e0 e1
    rw [e0, e1]
theorem open_two8 (hE : P.underlying E = some (.array 2 U)) (hU : P.underlying U = some (.int .u8)) (cU : P.cellsOf U = 1) (cE : P.cellsOf E = 2) (hv' : Value.okWide P w .any b' E v) (h : DataW.Trod enc P w base sp held E v d ps) : ∃ a b : UInt8, v = kv8 a b := by
  obtain ⟨cs, rfl⟩ := Go.Sx.okWide_arr hE hv'
  obtain ⟨fuel, hf⟩ := h
  obtain ⟨a, b, e⟩ := two8_of_trod hE hU cU cE hf
  exact ⟨a, b, by rw [kv8, ← e]; simp [Value.cells]⟩
theorem open_u8 {n : Int} (h : (Lit.int .u8 n).wf = true) : ∃ b : UInt8, n = (b.toNat : Int) := by
  have hb := bounds_u8 h
  exact ⟨UInt8.ofNat n.toNat, by rw [UInt8.toNat_ofNat']; omega⟩
theorem open_i64 {n : Int} (h : (Lit.int .i64 n).wf = true) : in64 n := by
  simp [Lit.wf, IntKind.min, IntKind.max, IntKind.signed, IntKind.bits] at h
  unfold in64; omega
end Go.Sx
namespace Go.Sx
open Go Go.RowKit Go.WideShapes Go.ChangeShapes
set_option linter.unusedVariables false
set_option linter.unusedSimpArgs false
variable {Hh : Type} {P : Program} {enc : TypeId × Value → Hh} {w : World} {base b' : Nat} {sp : Nat → Bool} {held : Bool} {v : Value} {d : DataW Hh} {ps : List MemPlace} {E T U : TypeId}
/-- A slice that comes in, of whatever elements. -/
theorem slice_of_trod {α : Type} [Inhabited α] {fc : α → List Value} {sz fuel : Nat} {G : α → Prop} {cs : List Value} {x : DataW Hh × List MemPlace} (hT : P.underlying T = some (.slice E)) (cE : P.cellsOf E = sz) (hf : ∀ a, (fc a).length = sz)
    (hE : ∀ (fuel : Nat) (cs : List Value) (x : DataW Hh × List MemPlace), DataW.trod enc P w 0 sp held fuel E cs = some x → ∃ a : α, G a ∧ cs = fc a) (h : DataW.trod enc P w 0 sp held fuel T cs = some x) :
    ∃ (A : Option Addr) (n k : Nat) (l : List α), cs = [.slice A n k] ∧ l.length = n ∧ n ≤ k ∧ k ≤ maxLen ∧ (∀ a ∈ l, G a) ∧ ∀ w', Fr No w w' → Sl w' A (l.flatMap fc) := by
  rcases Go.Deep.open_slice hT h with ⟨hcs', hx⟩ | ⟨a, len, cap, m, n', D, Pl, hcs', _, hl, hm, hmm, hx, hel⟩
  · exact ⟨none, 0, 0, [], hcs', rfl, Nat.le_refl _, Nat.zero_le _, fun _ h => (by cases h), fun _ _ => .inl rfl⟩
  · have key : ∀ i, i < len → ∃ x : α, G x ∧ At w (a.add (i * sz)) (fc x) := by
      intro i hi
      obtain ⟨cs', h1, h2⟩ := hel i (by rw [hmm]; split <;> omega)
      obtain ⟨x, hg, rfl⟩ := hE _ _ _ h2
      rw [cE] at h1
      exact ⟨x, hg, At.cells h1⟩
    obtain ⟨f, hf'⟩ := Go.Deep.choose_lt key
    refine ⟨some a, len, cap, (List.range len).map f, hcs', by simp, hl, hm, fun y hy => ?_, fun w' hfr => .inr ⟨rfl, ?_⟩⟩
    · obtain ⟨i, hi, rfl⟩ := List.mem_map.1 hy
      exact (hf' i (List.mem_range.1 hi)).1
    have := At.flat (w := w) (a := a) (sz := sz) (((List.range len).map f).map fc) 0 (fun x hx => by
      obtain ⟨y, _, rfl⟩ := List.mem_map.1 hx
      exact hf y) (fun i x hx => by
      rw [List.map_map, List.getElem?_map] at hx
      obtain ⟨i', hi', rfl⟩ := Option.map_eq_some_iff.1 hx
      obtain ⟨hlt, hi''⟩ := List.getElem?_eq_some_iff.1 hi'
      simp only [List.getElem_range] at hi''
      subst hi''
      rw [Nat.zero_add]
      exact (hf' i (by simpa using hlt)).2)
    rw [Nat.zero_mul] at this
    have e : ((((List.range len).map f).map fc)).flatten = ((List.range len).map f).flatMap fc := by rw [List.flatMap_def]
    rw [e] at this
    simp only [gA, Option.getD_some]
    have h0 : a.add 0 = a := by unfold Addr.add; simp
    rw [h0] at this
    exact this.far hfr
/-- A list of hashes that comes in, in whatever holds it. -/
theorem hashes_of_trod {fuel : Nat} {cs : List Value} {x : DataW Hh × List MemPlace} (hT : P.underlying T = some (.slice E)) (hE : P.underlying E = some (.array 32 U)) (hU : P.underlying U = some (.int .u8)) (cU : P.cellsOf U = 1) (cE : P.cellsOf E = 32) (h : DataW.trod enc P w 0 sp held fuel T cs = some x) :
    ∃ (A : Option Addr) (n k : Nat) (l : List H), cs = [.slice A n k] ∧ l.length = n ∧ n ≤ k ∧ k ≤ maxLen ∧ ∀ w', Fr No w w' → Sl w' A (hcs l) := by
  obtain ⟨A, n, k, l, e, h1, h2, h3, _, h4⟩ := slice_of_trod (fc := hc) (G := fun _ => True) hT cE hcl (fun fuel cs x hx => by
    obtain ⟨a, e⟩ := hash_of_trod hE hU cU cE hx
    exact ⟨a, trivial, e⟩) h
  exact ⟨A, n, k, l, e, h1, h2, h3, h4⟩
end Go.Sx
