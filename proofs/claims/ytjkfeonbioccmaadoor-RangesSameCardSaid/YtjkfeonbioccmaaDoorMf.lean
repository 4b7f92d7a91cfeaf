/- Speculum proofs: maps of hashes by two numbers. -/
/- Speculum proofs: scopes, labels; interfaces of maps; a map that is copied. -/
/- Speculum proofs: slices held against nil, empty slices, a slice cut short that is appended to; numbers without a sign. -/
/- Speculum proofs: slices of structs; quotients of numbers; slices that grow, of larger elements. -/
import Derived.Test.YtjkfeonbioccmaaDoorMd
import Derived.DeepKeys4
import Derived.MapKept
import Derived.MapFrom
import Derived.Laws.Pointers
import Derived.WalkSpells
import Derived.Scope
import Derived.Laws.Externs
namespace Go.Sx
open Go Go.RowKit
open Go.WideMaps (KeyLaw)
set_option linter.unusedVariables false
set_option linter.unusedSimpArgs false
/-- Two numbers as a key. -/
def kv (a b : Int) : Value := .agg #[.int .i64 a, .int .i64 b]
theorem kv_inj {a b a' b' : Int} (h : kv a b = kv a' b') : a = a' ∧ b = b' := by
  simp only [kv, Value.agg.injEq, Array.mk.injEq, List.cons.injEq, Value.int.injEq, true_and, and_true] at h
  exact h
def in64 (a : Int) : Prop := -9223372036854775808 ≤ a ∧ a ≤ 9223372036854775807
/-- The key's type: two numbers. -/
structure MK (P : Program) (k : TypeId) : Prop where
  law : KeyLaw P k
  key : ∀ a b, in64 a → in64 b → ∃ l, keyOf P k (kv a b) = some l
/-- A map that says what f says. -/
structure Mp (es : Array MapEntry) (f : Int → Int → Option H) : Prop where
  look : ∀ e ∈ es.toList, ∃ a b h, in64 a ∧ in64 b ∧ e.key = kv a b ∧ e.val = hv h ∧ f a b = some h
  has : ∀ a b h, f a b = some h → ∃ e ∈ es.toList, e.key = kv a b
  nodup : es.toList.Pairwise fun x y => x.key ≠ y.key
theorem Mp.nil : Mp #[] (fun _ _ => none) := ⟨fun _ h => (by simp at h), fun _ _ _ h => (by cases h), (by simp)⟩
theorem Mp.to {es : Array MapEntry} {f f' : Int → Int → Option H} (h : Mp es f) (e : ∀ a b, f a b = f' a b) : Mp es f' := by
  have : f = f' := funext fun a => funext fun b => e a b
  rwa [this] at h
def updM (f : Int → Int → Option H) (a b : Int) (h : H) : Int → Int → Option H := fun a' b' => if a' = a ∧ b' = b then some h else f a' b'
theorem modify_eq_set' (l : List MapEntry) (j : Nat) (e0 : MapEntry) (g : MapEntry → MapEntry) (h : l[j]? = some e0) : l.modify j g = l.set j (g e0) := by
  apply List.ext_getElem?
  intro i
  rw [List.getElem?_modify, List.getElem?_set]
  by_cases hij : j = i
  · subst hij
    rw [if_pos rfl, if_pos (List.getElem?_eq_some_iff.1 h).1, h]; simp
  · rw [if_neg hij]; simp [hij]
theorem pair_ne {l : List MapEntry} (h : l.Pairwise fun x y => x.key ≠ y.key) {i j : Nat} (hij : i ≠ j) {x y : MapEntry} (hx : l[i]? = some x) (hy : l[j]? = some y) : x.key ≠ y.key := by
  obtain ⟨h1, e1⟩ := List.getElem?_eq_some_iff.1 hx
  obtain ⟨h2, e2⟩ := List.getElem?_eq_some_iff.1 hy
  rw [List.pairwise_iff_getElem] at h
  rcases Nat.lt_or_gt_of_ne hij with h3 | h3
  · have := h i j h1 h2 h3
    rwa [e1, e2] at this
  · have := h j i h2 h1 h3
    rw [e1, e2] at this
    exact this.symm
theorem pair_set {l : List MapEntry} (h : l.Pairwise fun x y => x.key ≠ y.key) {j : Nat} {e0 e1 : MapEntry} (h2 : l[j]? = some e0) (he : e0.key = e1.key) : (l.set j e1).Pairwise fun x y => x.key ≠ y.key := by
  have e : (l.set j e1).map (·.key) = l.map (·.key) := by
    apply List.ext_getElem?
    intro i
    rw [List.getElem?_map, List.getElem?_map, List.getElem?_set]
    by_cases hij : j = i
    · subst hij
      rw [if_pos rfl, if_pos (List.getElem?_eq_some_iff.1 h2).1, h2]; simp [he]
    · rw [if_neg hij]
  have h3 : (l.map (·.key)).Pairwise (· ≠ ·) := by rw [List.pairwise_map]; exact h
  rw [← e, List.pairwise_map] at h3
  exact h3
section
variable {P : Program} {k e t : TypeId} {es : Array MapEntry} {clock g : Nat} {f : Int → Int → Option H} {w : World} {a b : Int}
theorem Mp.keys (hK : MK P k) (hM : Mp es f) : ∀ x ∈ es.toList, ∃ l, keyOf P k x.key = some l := fun x hx => by
  obtain ⟨a, b, h, ha, hb, e, _⟩ := hM.look x hx
  rw [e]; exact hK.key a b ha hb
theorem run_look (hK : MK P k) (ht : P.underlying t = some (.map k e)) (hz : zO P e = some (hv H.zero)) (ha : in64 a) (hb : in64 b) (hw : w.heap[g]? = some (.map es clock)) (hM : Mp es f) (ok : Bool) :
    (Instr.lookup t (.map (some g)) (kv a b) ok).run P w = .ok (if ok then .tuple #[hv ((f a b).getD H.zero), .bool (f a b).isSome] else hv ((f a b).getD H.zero)) w := by
  obtain ⟨lit, hkey⟩ := hK.key a b ha hb
  rcases hK.law.find w hkey es.toList (hM.keys hK) with ⟨h1, h2⟩ | ⟨j, e0, h1, h2, h3⟩
  · have hn : f a b = none := by
      cases hf : f a b with
      | none => rfl
      | some h =>
        obtain ⟨x, hx, e⟩ := hM.has a b h hf
        exact absurd e (h2 x hx)
    rw [hn]
    simp [Instr.lookup, run_underlying ht, MapKept.run_getObj_map hw, hK.law.check w _ hkey, h1, run_zO hz, Result.andThen]
  · obtain ⟨a', b', h, _, _, e1, e2, e3⟩ := hM.look e0 (List.mem_of_getElem? h2)
    obtain ⟨rfl, rfl⟩ := kv_inj (h3.symm.trans e1)
    rw [e3]
    simp [Instr.lookup, run_underlying ht, MapKept.run_getObj_map hw, hK.law.check w _ hkey, h1, e2, Result.andThen]
theorem run_upd (hK : MK P k) (ht : P.underlying t = some (.map k e)) (ha : in64 a) (hb : in64 b) (hw : w.heap[g]? = some (.map es clock)) (hM : Mp es f) (h : H) :
    ∃ es' clock', (Instr.mapUpdate t (.map (some g)) (kv a b) (hv h)).run P w = .ok () { w with heap := w.heap.setIfInBounds g (.map es' clock') } ∧ Mp es' (updM f a b h) := by
  obtain ⟨lit, hkey⟩ := hK.key a b ha hb
  rcases hK.law.find w hkey es.toList (hM.keys hK) with ⟨h1, h2⟩ | ⟨j, e0, h1, h2, h3⟩
  · refine ⟨es.push ⟨kv a b, hv h, clock⟩, clock + 1, ?_, ?_, ?_, ?_⟩
    · simp [Instr.mapUpdate, run_underlying ht, MapKept.run_getObj_map hw, hK.law.check w false hkey, h1, MapKept.run_setObj_map _ hw, Result.andThen]
    · intro x hx
      simp only [Array.toList_push, List.mem_append, List.mem_singleton] at hx
      rcases hx with hx | rfl
      · obtain ⟨a', b', h', c1, c2, c3, c4, c5⟩ := hM.look x hx
        refine ⟨a', b', h', c1, c2, c3, c4, ?_⟩
        unfold updM
        rw [if_neg]
        · exact c5
        · rintro ⟨rfl, rfl⟩; exact h2 x hx c3
      · exact ⟨a, b, h, ha, hb, rfl, rfl, if_pos ⟨rfl, rfl⟩⟩
    · intro a' b' h' hf
      unfold updM at hf
      split at hf
      · rename_i hc
        obtain ⟨rfl, rfl⟩ := hc
        exact ⟨⟨kv a' b', hv h, clock⟩, by simp, rfl⟩
      · obtain ⟨x, hx, e⟩ := hM.has a' b' h' hf
        exact ⟨x, by simp [hx], e⟩
    · rw [Array.toList_push, List.pairwise_append]
      exact ⟨hM.nodup, by simp, fun x hx y hy => by rw [List.mem_singleton.1 hy]; exact h2 x hx⟩
  · have hj : es[j]? = some e0 := by simpa using h2
    refine ⟨es.modify j (fun e' => { e' with key := kv a b, val := hv h }), clock, ?_, ?_, ?_, ?_⟩
    · simp [Instr.mapUpdate, run_underlying ht, MapKept.run_getObj_map hw, hK.law.check w false hkey, h1, hj, h3, hK.law.stays w hkey, MapKept.run_setObj_map _ hw, Result.andThen]
    all_goals rw [Array.toList_modify, modify_eq_set' _ _ _ _ h2]
    · intro x hx
      rcases List.mem_or_eq_of_mem_set hx with hx' | rfl
      · obtain ⟨i, hi⟩ := List.mem_iff_getElem?.1 hx
        obtain ⟨a', b', h', c1, c2, c3, c4, c5⟩ := hM.look x hx'
        by_cases hij : j = i
        · subst hij
          rw [List.getElem?_set_self (List.getElem?_eq_some_iff.1 h2).1] at hi
          injection hi with hi
          subst hi
          exact ⟨a, b, h, ha, hb, rfl, rfl, if_pos ⟨rfl, rfl⟩⟩
        · rw [List.getElem?_set_ne hij] at hi
          refine ⟨a', b', h', c1, c2, c3, c4, ?_⟩
          unfold updM
          rw [if_neg]
          · exact c5
          · rintro ⟨rfl, rfl⟩
            exact pair_ne hM.nodup hij h2 hi (h3.trans c3.symm)
      · exact ⟨a, b, h, ha, hb, rfl, rfl, if_pos ⟨rfl, rfl⟩⟩
    · intro a' b' h' hf
      unfold updM at hf
      split at hf
      · rename_i hc
        obtain ⟨rfl, rfl⟩ := hc
        exact ⟨_, List.mem_of_getElem? (List.getElem?_set_self (List.getElem?_eq_some_iff.1 h2).1), rfl⟩
      · rename_i hc
        obtain ⟨x, hx, e⟩ := hM.has a' b' h' hf
        obtain ⟨i, hi⟩ := List.mem_iff_getElem?.1 hx
        by_cases hij : j = i
        · subst hij
          rw [h2] at hi
          injection hi with hi
          subst hi
          rw [h3] at e
          obtain ⟨rfl, rfl⟩ := kv_inj e
          exact absurd ⟨rfl, rfl⟩ hc
        · exact ⟨x, List.mem_of_getElem? ((List.getElem?_set_ne hij).trans hi), e⟩
    · refine pair_set hM.nodup h2 ?_
      exact h3
end
section
variable {c : Cx} {ops : Array Oper} {Q : Exit → Act → World → Prop} {tm : Env} {C : List Chunk} {F : World → Prop} {l : List Oper} {o : Oper} {x y z : Operand} {t k e : TypeId} {d g clock : Nat} {es : Array MapEntry} {f : Int → Int → Option H} {a b : Int}
theorem y_look1 (hK : MK c.P k) (ho : o.op = .lookup t x y false) (ht : c.P.underlying t = some (.map k e)) (hz : zO c.P e = some (hv H.zero)) (hx : ev tm x = some (.map (some g))) (hy : ev tm y = some (kv a b)) (ha : in64 a) (hb : in64 b) (hM : Mp es f) (hr : ∀ w, St c w C F → w.heap[g]? = some (.map es clock)) : Yl c tm C F o (hv ((f a b).getD H.zero)) := fun ac w hag hs => by
  simp only [execOp, ho, hag.ev hx, hag.ev hy, Sem.run_bind, run_look hK ht hz ha hb (hr w hs) hM]; rfl
theorem y_look2 (hK : MK c.P k) (ho : o.op = .lookup t x y true) (ht : c.P.underlying t = some (.map k e)) (hz : zO c.P e = some (hv H.zero)) (hx : ev tm x = some (.map (some g))) (hy : ev tm y = some (kv a b)) (ha : in64 a) (hb : in64 b) (hM : Mp es f) (hr : ∀ w, St c w C F → w.heap[g]? = some (.map es clock)) : Yl c tm C F o (.tuple #[hv ((f a b).getD H.zero), .bool (f a b).isSome]) := fun ac w hag hs => by
  simp only [execOp, ho, hag.ev hx, hag.ev hy, Sem.run_bind, run_look hK ht hz ha hb (hr w hs) hM]; rfl
theorem J.makeMap (ho : o.op = .makeMap t none) (hg : o.guard = none) (hd : o.dst = some d) (hn : Nat.ble (d + 1) c.n = true) (h : ∀ g, J c ops Q l ((d, .map (some g)) :: tm) (.mp g (.map #[] 0) :: C) F) : J c ops Q (o :: l) tm C F :=
  J.ef (S' := True) hg hd hn fun ac w hag hst => by
    refine ⟨_, w.alloc (.map #[] 0), ?_, _, _, hst.push (Fr.alloc _ _ _) (x := .mp w.heap.size (.map #[] 0)) (by show (w.heap.push _)[w.heap.size]? = _; simp) (fun k hk => by simp only [Chunk.own, Option.some.injEq] at hk; omega), h _⟩
    simp only [execOp, ho, Option.map_none, Instr.makeMap, newObj, Sem.run_bind]; rfl
theorem J.mapUpd (i : Nat) (h' : H) (hK : MK c.P k) (ho : o.op = .mapUpdate t x y z) (hg : o.guard = none) (hd : o.dst = none) (ht : c.P.underlying t = some (.map k e)) (hx : ev tm x = some (.map (some g))) (hy : ev tm y = some (kv a b)) (hz : ev tm z = some (hv h')) (ha : in64 a) (hb : in64 b)
    (hC : C[i]? = some (.mp g (.map es clock))) (hM : Mp es f) (h : ∀ es' clock', Mp es' (updM f a b h') → J c ops Q l tm (C.set i (.mp g (.map es' clock'))) F) : J c ops Q (o :: l) tm C F :=
  J.eu hg hd fun ac w hag hs => by
    have hsat : w.heap[g]? = some (.map es clock) := hs.get hC
    obtain ⟨es', clock', hr, hM'⟩ := run_upd (P := c.P) hK ht ha hb hsat hM h'
    refine ⟨_, ?_, _, _, hs.upd hC (y := .mp g (.map es' clock')) (w' := { w with heap := w.heap.setIfInBounds g (.map es' clock') }) ⟨rfl, rfl, rfl, by simp, fun k hk hn => ?_⟩ ?_ (fun k hk => .inl hk), h es' clock' hM'⟩
    · simp only [execOp, ho, hag.ev hx, hag.ev hy, hag.ev hz, Sem.run_bind, hr]; rfl
    · have : g ≠ k := fun e => hn (by simp [Chunk.own, e])
      simp [Array.getElem?_setIfInBounds, this]
    · have hlt := lt_of_some hsat
      simp [Chunk.sat, hlt]
theorem eqG_ptr {op : BinOp} {p : Option Addr} {v : Value} : eqGuard op t x y (.pointer p) v = pure () := by cases op <;> rfl
theorem eqG_map {op : BinOp} {p : Option Nat} {v : Value} : eqGuard op t x y (.map p) v = pure () := by cases op <;> rfl
theorem y_pnil {A : Option Addr} {t' : TypeId} (ho : o.op = .binOp .eql t x y t') (ht : c.P.underlying t = some (.pointer e)) (hx : ev tm x = some (.pointer A)) (hy : ev tm y = some (.pointer none)) : Yl c tm C F o (.bool A.isNone) :=
  y_bin ho hx hy eqG_ptr fun w _ => by
    have h : ∀ d, (Op.equalIn (d + 1) t (.pointer A) (.pointer none)).run c.P w = .ok A.isNone w := fun d => by cases A <;> simp [Op.equalIn, run_underlying ht]
    simp only [binOp]
    simp [Op.equal, Op.maxDepth, h 9999]
theorem y_pnn {A : Option Addr} {t' : TypeId} (ho : o.op = .binOp .neq t x y t') (ht : c.P.underlying t = some (.pointer e)) (hx : ev tm x = some (.pointer A)) (hy : ev tm y = some (.pointer none)) : Yl c tm C F o (.bool (!A.isNone)) :=
  y_bin ho hx hy eqG_ptr fun w _ => by
    have h : ∀ d, (Op.equalIn (d + 1) t (.pointer A) (.pointer none)).run c.P w = .ok A.isNone w := fun d => by cases A <;> simp [Op.equalIn, run_underlying ht]
    simp only [binOp]
    simp [Op.equal, Op.maxDepth, h 9999]
theorem y_mnil {A : Option Nat} {t' : TypeId} (ho : o.op = .binOp .eql t x y t') (ht : c.P.underlying t = some (.map k e)) (hx : ev tm x = some (.map A)) (hy : ev tm y = some (.map none)) : Yl c tm C F o (.bool A.isNone) :=
  y_bin ho hx hy eqG_map fun w _ => by
    have h : ∀ d, (Op.equalIn (d + 1) t (.map A) (.map none)).run c.P w = .ok A.isNone w := fun d => by cases A <;> simp [Op.equalIn, run_underlying ht]
    simp only [binOp]
    simp [Op.equal, Op.maxDepth, h 9999]
end
end Go.Sx
namespace Go.Sx
open Go Go.RowKit
set_option linter.unusedVariables false
set_option linter.unusedSimpArgs false
section
variable {c : Cx} {ops : Array Oper} {Q : Exit → Act → World → Prop} {tm : Env} {C : List Chunk} {F : World → Prop} {x : Code}
theorem JC.scope (h : JC c x (Exit.noGoto Q) tm C F) : JC c (.scope x) Q tm C F := fun a w ha hs => wp_scope_straight (h a w ha hs)
theorem JC.label {l : Nat} (h : JQ c Q .normal tm C F) : JC c (.label l) Q tm C F := fun a w ha hs => wp_label (h a w ha hs)
theorem JQ.scope_normal (h : JQ c Q .normal tm C F) : JQ c (Exit.noGoto Q) .normal tm C F := h
theorem JQ.scope_ret (h : JQ c Q .ret tm C F) : JQ c (Exit.noGoto Q) .ret tm C F := h
theorem JQ.scope_exit {id : Nat} (h : JQ c Q (.exit id) tm C F) : JQ c (Exit.noGoto Q) (.exit id) tm C F := h
theorem PQ.scope (h : PQ Q) : PQ (Exit.noGoto Q) := h
end
section
variable {c : Cx} {ops : Array Oper} {Q : Exit → Act → World → Prop} {tm : Env} {C : List Chunk} {F : World → Prop} {l : List Oper} {o : Oper} {x : Operand} {t t' tx k e : TypeId} {d g clock : Nat} {es : Array MapEntry} {v : Value} {n : Int}
theorem y_mkI (ho : o.op = .makeInterface t x) (ht : c.P.underlying t = some (.map k e)) (hx : ev tm x = some v) : Yl c tm C F o (.iface t v) := fun ac w hag hs => by
  simp only [execOp, ho, hag.ev hx, Sem.run_bind, Instr.makeInterface, run_underlying ht]; rfl
theorem y_tyA (ho : o.op = .typeAssert x tx t false) (ht : c.P.underlying t = some (.map k e)) (hx : ev tm x = some (.iface t v)) : Yl c tm C F o v := fun ac w hag hs => by
  simp only [execOp, ho, hag.ev hx, Sem.run_bind, Instr.typeAssert, run_underlying ht]
  simp [Result.andThen]
theorem J.clone {f : FuncId} {fn : Func} {ats : Array TypeId} (ho : o.op = .call { callee := .value (.func f), args := #[x], argTypes := ats }) (hg : o.guard = none) (hd : o.dst = some d) (hn : Nat.ble (d + 1) c.n = true)
    (hf : c.P.funcs[f]? = some fn) (h1 : (fn.name == "runtime.NumGoroutine") = false) (h2 : fn.body.isNone = true) (h3 : Extern.findNext fn = none) (h4 : Extern.find fn = some Extern.MapsClone.clone) (hx : ev tm x = some (.iface t (.map (some g)))) (hr : ∀ w, St c w C F → w.heap[g]? = some (.map es clock))
    (h : ∀ g', J c ops Q l ((d, .iface t (.map (some g'))) :: tm) (.mp g' (.map es clock) :: C) F) : J c ops Q (o :: l) tm C F :=
  J.ef (S' := True) hg hd hn fun ac w hag hst => by
    have hb := hr w hst
    refine ⟨.iface t (.map (some w.heap.size)), w.alloc (.map es clock), ?_, _, _, hst.push (Fr.alloc _ _ _) (x := .mp w.heap.size (.map es clock)) (by show (w.heap.push _)[w.heap.size]? = _; simp) (fun k hk => by simp only [Chunk.own, Option.some.injEq] at hk; omega), h _⟩
    have e : (Extern.MapsClone.clone #[.iface t (.map (some g))]).run c.P w = .ok (.iface t (.map (some w.heap.size))) (w.alloc (.map es clock)) := by
      have e0 : Extern.MapsClone.clone #[.iface t (.map (some g))] = (getObj g >>= fun o => match o with
          | .map entries clock => (newObj (.map entries clock) >>= fun n => pure (.iface t (.map (some n))))
          | _ => stuck "maps.clone: a map expected") := rfl
      rw [e0]
      simp only [Sem.run_bind, MapKept.run_getObj_map hb, Result.andThen_ok]
      rfl
    have he : (#[x] : Array Operand).map ac.eval = #[.iface t (.map (some g))] := by simp [hag.ev hx]
    simp only [execOp, ho, resolve, he, Sem.run_bind]
    simp only [Act.eval, Deferred.ofValue, Sem.run_pure, Result.andThen_ok, invoke, Array.append_empty, Array.empty_append]
    rw [run_callFunc_extern hf h1 h2 h3 h4, e]
    rfl
end
end Go.Sx
namespace Go.Sx
open Go Go.RowKit
set_option linter.unusedVariables false
set_option linter.unusedSimpArgs false
theorem fdiv_nat (a k : Nat) : (a : Int).fdiv (2 ^ k) = ((a / 2 ^ k : Nat) : Int) := by
  rw [Int.fdiv_eq_ediv_of_nonneg _ (by have : (0 : Int) < 2 ^ k := Int.pow_pos (by decide); omega)]
  simp
theorem row_short {w : World} {A : Option Addr} {n m k sz : Nat} {e : TypeId} {xs : List Value} (hm : m ≤ n) (h : w.ownsRow 0 e sz (.slice A n k) n xs) : w.ownsRow 0 e sz (.slice A m k) m (xs.take (m * sz)) := by
  obtain ⟨h1, h2⟩ := h
  have hms : m * sz ≤ n * sz := Nat.mul_le_mul_right _ hm
  refine ⟨by rw [List.length_take]; omega, ?_⟩
  rcases h2 with ⟨e1, e2⟩ | ⟨g, cap, cur, e1, hg, hh, hc, hl, hs, ht⟩
  · injection e1 with a b c
    subst a c
    obtain rfl : m = 0 := by omega
    exact .inl ⟨rfl, rfl⟩
  · injection e1 with a b c
    subst a c
    exact .inr ⟨g, k, cur, rfl, hg, hh, by omega, hl, hs, by rw [← ht, List.take_take, Nat.min_eq_left hms]⟩
section
variable {c : Cx} {ops : Array Oper} {Q : Exit → Act → World → Prop} {tm : Env} {C : List Chunk} {F : World → Prop} {l : List Oper} {o : Oper} {x y z : Operand} {t t' e : TypeId} {d : Nat} {w : World} {k : IntKind}
theorem St.short (h : St c w C F) (i m : Nat) {A : Option Addr} {n cap sz : Nat} {xs xs' : List Value} (hi : C[i]? = some (.row (.slice A n cap) e sz n xs)) (hm : m ≤ n) (hx : xs.take (m * sz) = xs') : St c w (C.set i (.row (.slice A m cap) e sz m xs')) F := by
  subst hx; exact h.recast hi (by cases A <;> rfl) (row_short hm)
theorem J.short (i m : Nat) {A : Option Addr} {n cap sz : Nat} {xs xs' : List Value} (hi : C[i]? = some (.row (.slice A n cap) e sz n xs)) (hm : m ≤ n) (hx : xs.take (m * sz) = xs') (h : J c ops Q l tm (C.set i (.row (.slice A m cap) e sz m xs')) F) : J c ops Q l tm C F := J.st h fun w hs => hs.short i m hi hm hx
theorem JC.short {u : Code} (i m : Nat) {A : Option Addr} {n cap sz : Nat} {xs xs' : List Value} (hi : C[i]? = some (.row (.slice A n cap) e sz n xs)) (hm : m ≤ n) (hx : xs.take (m * sz) = xs') (h : JC c u Q tm (C.set i (.row (.slice A m cap) e sz m xs')) F) : JC c u Q tm C F := JC.st h fun w hs => hs.short i m hi hm hx
theorem JQ.short {u : Exit} (i m : Nat) {A : Option Addr} {n cap sz : Nat} {xs xs' : List Value} (hi : C[i]? = some (.row (.slice A n cap) e sz n xs)) (hm : m ≤ n) (hx : xs.take (m * sz) = xs') (h : JQ c Q u tm (C.set i (.row (.slice A m cap) e sz m xs')) F) : JQ c Q u tm C F := JQ.st h fun w hs => hs.short i m hi hm hx
theorem eqG_sl {op : BinOp} {A : Option Addr} {n m : Nat} {v : Value} : eqGuard op t x y (.slice A n m) v = pure () := by cases op <;> rfl
theorem y_slnil {A : Option Addr} {n m : Nat} (ho : o.op = .binOp .eql t x y t') (ht : c.P.underlying t = some (.slice e)) (hx : ev tm x = some (.slice A n m)) (hy : ev tm y = some (.slice none 0 0)) : Yl c tm C F o (.bool A.isNone) :=
  y_bin ho hx hy eqG_sl fun w _ => by
    have h : ∀ d, (Op.equalIn (d + 1) t (.slice A n m) (.slice none 0 0)).run c.P w = .ok A.isNone w := fun d => by cases A <;> simp [Op.equalIn, run_underlying ht]
    simp only [binOp]
    simp [Op.equal, Op.maxDepth, h 9999]
/-- []T{} -/
theorem J.bs0 {sz : Nat} (ho : o.op = .buildSlice t 0 #[]) (hg : o.guard = none) (hd : o.dst = some d) (hn : Nat.ble (d + 1) c.n = true) (ht : c.P.underlying t = some (.slice e)) (hs : szO c.P e = some sz)
    (h : ∀ g, J c ops Q l ((d, .slice (some ⟨g, 0, none⟩) 0 0) :: tm) (.row (.slice (some ⟨g, 0, none⟩) 0 0) e sz 0 [] :: C) F) : J c ops Q (o :: l) tm C F :=
  J.ef (S' := True) hg hd hn fun ac w hag hst => ⟨.slice (some ⟨w.heap.size, 0, none⟩) 0 0, w.alloc (.cells #[] e), by
      have e0 : ∀ sz : Nat, (Array.range (0 * sz)) = #[] := fun sz => by rw [Nat.zero_mul]; rfl
      simp only [execOp, ho, Instr.buildSlice, Sem.run_bind, run_underlying ht, Result.andThen_ok, run_szO hs]
      rw [if_neg (by omega), if_pos (by omega)]
      simp only [Sem.run_bind, Sem.run_pure, Result.andThen_ok, e0]
      simp only [List.map_toArray, List.map_nil, Instr.fill, Sem.run_bind]
      rfl,
    _, _, hst.push (Fr.alloc _ _ _) (row_of_box (cs := []) (by simp) (Nat.zero_le _) (box_new w e [])) (fun k hk => by simp only [Chunk.own, Value.ownBlock, Option.some.injEq] at hk; omega), h _⟩
theorem y_andN {a' b' : Int} (a b : Nat) (ho : o.op = .binOp .and t x y t') (hx : ev tm x = some (.int .u64 a')) (hy : ev tm y = some (.int .u64 b')) (ha : a' = a) (hb : b' = b) (h : a < 18446744073709551616) (h2 : b < 18446744073709551616) : Yl c tm C F o (.int .u64 ((a &&& b : Nat) : Int)) := by
  subst ha hb
  refine y_and ho hx hy ?_
  have hle : a &&& b ≤ a := Nat.and_le_left
  have e : (BitVec.ofInt IntKind.u64.bits (a : Int) &&& BitVec.ofInt IntKind.u64.bits (b : Int)).toNat = a &&& b := by
    rw [BitVec.toNat_and, BitVec.ofInt_natCast, BitVec.ofInt_natCast, BitVec.toNat_ofNat, BitVec.toNat_ofNat]
    show a % 2 ^ 64 &&& b % 2 ^ 64 = _
    rw [Nat.mod_eq_of_lt h, Nat.mod_eq_of_lt h2]
  rw [e, IntKind.wrap_u64]
  omega
theorem y_addU {a' b' : Int} (a b : Nat) (ho : o.op = .binOp .add t x y t') (hx : ev tm x = some (.int .u64 a')) (hy : ev tm y = some (.int .u64 b')) (ha : a' = a) (hb : b' = b) (h : a + b < 18446744073709551616) : Yl c tm C F o (.int .u64 ((a + b : Nat) : Int)) := by
  subst ha hb
  exact y_add ho hx hy (by rw [IntKind.wrap_u64]; omega)
theorem y_shrN {a' b' : Int} {yk : IntKind} (a j : Nat) (ho : o.op = .binOp .shr t x y t') (hx : ev tm x = some (.int k a')) (hy : ev tm y = some (.int yk b')) (ha : a' = a) (hb : b' = j) (h : j ≤ k.bits) : Yl c tm C F o (.int k ((a / 2 ^ j : Nat) : Int)) := by
  subst ha hb
  exact y_shr ho hx hy (by omega) (by rw [Int.toNat_natCast, Nat.min_eq_left h, fdiv_nat])
/-- Numbers that are not below 0, bit by bit. -/
theorem y_andNN {a' b' : Int} (a b : Nat) (ho : o.op = .binOp .and t x y t') (hx : ev tm x = some (.int .i64 a')) (hy : ev tm y = some (.int .i64 b')) (ha : a' = a) (hb : b' = b) (h : a < 9223372036854775808) (h2 : b < 9223372036854775808) : Yl c tm C F o (.int .i64 ((a &&& b : Nat) : Int)) := by
  subst ha hb
  refine y_and ho hx hy ?_
  have hle : a &&& b ≤ a := Nat.and_le_left
  have e : (BitVec.ofInt IntKind.i64.bits (a : Int) &&& BitVec.ofInt IntKind.i64.bits (b : Int)).toNat = a &&& b := by
    rw [BitVec.toNat_and, BitVec.ofInt_natCast, BitVec.ofInt_natCast, BitVec.toNat_ofNat, BitVec.toNat_ofNat]
    show a % 2 ^ 64 &&& b % 2 ^ 64 = _
    rw [Nat.mod_eq_of_lt (by omega), Nat.mod_eq_of_lt (by omega)]
  rw [e, IntKind.wrap_i64]
  omega
end
end Go.Sx
namespace Go.Sx
open Go Go.RowKit
set_option linter.unusedVariables false
set_option linter.unusedSimpArgs false
section
variable {α : Type} {fc : α → List Value} {sz : Nat}
theorem fl_len (hf : ∀ x, (fc x).length = sz) (l : List α) : (l.flatMap fc).length = l.length * sz := by
  induction l with
  | nil => simp
  | cons x r ih => rw [List.flatMap_cons, List.length_append, hf, ih, List.length_cons, Nat.succ_mul]; omega
theorem fl_drop (hf : ∀ x, (fc x).length = sz) (l : List α) (k : Nat) : (l.flatMap fc).drop (k * sz) = (l.drop k).flatMap fc := by
  induction l generalizing k with
  | nil => simp
  | cons x r ih =>
    cases k with
    | zero => simp
    | succ k => rw [List.flatMap_cons, List.drop_succ_cons, show (k + 1) * sz = sz + k * sz by rw [Nat.succ_mul]; omega, ← List.drop_drop, List.drop_left' (hf x), ih]
theorem fl_take (hf : ∀ x, (fc x).length = sz) (l : List α) (k : Nat) : (l.flatMap fc).take (k * sz) = (l.take k).flatMap fc := by
  induction l generalizing k with
  | nil => simp
  | cons x r ih =>
    cases k with
    | zero => simp
    | succ k =>
      rw [List.flatMap_cons, List.take_succ_cons, List.flatMap_cons, show (k + 1) * sz = sz + k * sz by rw [Nat.succ_mul]; omega, List.take_append, hf, List.take_of_length_le (by rw [hf]; omega), show sz + k * sz - sz = k * sz by omega, ih]
theorem fl_at (hf : ∀ x, (fc x).length = sz) (l : List α) (i : Nat) (x : α) (hx : l[i]? = some x) (o k : Nat) (h : o + k ≤ sz) : ((l.flatMap fc).drop (i * sz + o)).take k = ((fc x).drop o).take k := by
  have hlt := (List.getElem?_eq_some_iff.1 hx).1
  have hd : l.drop i = x :: l.drop (i + 1) := by rw [List.drop_eq_getElem_cons hlt, (List.getElem?_eq_some_iff.1 hx).2]
  rw [← List.drop_drop, fl_drop hf, hd, List.flatMap_cons, List.drop_append_of_le_length (by rw [hf]; omega), List.take_append_of_le_length (by rw [List.length_drop, hf]; omega)]
theorem fl_get (hf : ∀ x, (fc x).length = sz) (l : List α) (i : Nat) (x : α) (hx : l[i]? = some x) (o : Nat) (h : o < sz) : (l.flatMap fc)[i * sz + o]? = (fc x)[o]? := by
  have e := fl_at hf l i x hx o 1 (by omega)
  have g : ∀ (ys : List Value) (q : Nat), ys[q]? = ((ys.drop q).take 1)[0]? := fun ys q => by simp
  rw [g, e, ← g]
theorem fl_ne (hf : ∀ x, (fc x).length = sz) (l : List α) (h0 : 0 < sz) (i : Nat) (h : i < l.length) : l.flatMap fc ≠ [] := by
  intro e
  have := congrArg List.length e
  rw [fl_len hf, List.length_nil] at this
  rcases Nat.mul_eq_zero.1 this with h1 | h1 <;> omega
theorem Sl.ftake {w : World} {A : Option Addr} (hf : ∀ x, (fc x).length = sz) {l : List α} (h : Sl w A (l.flatMap fc)) (j : Nat) : Sl w A ((l.take j).flatMap fc) :=
  h.take (by rw [← fl_take hf, List.length_take, ← List.take_take, List.take_length])
theorem Sl.fdrop {w : World} {A : Option Addr} (hf : ∀ x, (fc x).length = sz) {l : List α} (h : Sl w A (l.flatMap fc)) (j cap : Nat) (hc : l.length ≤ cap) (hj : j ≤ l.length) : Sl w (cutA A cap j sz) ((l.drop j).flatMap fc) :=
  h.cut (n := l.length) (fl_len hf l) hc hj (by rw [fl_drop hf, List.take_length])
end
section
variable {c : Cx} {ops : Array Oper} {Q : Exit → Act → World → Prop} {tm : Env} {C : List Chunk} {F : World → Prop} {l : List Oper} {o : Oper} {x y z : Operand} {t t' e : TypeId} {d : Nat} {v : Value} {w : World}
theorem y_quoN {a b : Int} (m n : Nat) (ho : o.op = .binOp .quo t x y t') (hx : ev tm x = some (.int .i64 a)) (hy : ev tm y = some (.int .i64 b)) (ha : a = m) (hb : b = n) (hn : 0 < n) (hm : m ≤ 9223372036854775807) : Yl c tm C F o (.int .i64 ((m / n : Nat) : Int)) := by
  subst ha; subst hb
  exact (y_quo64 ho hx hy ⟨by omega, by omega, by omega⟩).to (by rw [Int.natCast_ediv])
/-- The address of a struct in a slice; its parts. -/
theorem y_fidx {α : Type} {fc : α → List Value} {sz : Nat} (hf : ∀ x, (fc x).length = sz) {A : Option Addr} {n cap : Nat} {k : IntKind} {a : Int} {l : List α} (j : Nat) (ho : o.op = .indexAddr t x y) (ht : c.P.underlying t = some (.slice e)) (hz : szO c.P e = some sz) (hx : ev tm x = some (.slice A n cap)) (hy : ev tm y = some (.int k a)) (hj : a = j)
    (hn : l.length = n) (h : j < n) (h0 : 0 < sz) (hA : ∀ w, St c w C F → Sl w A (l.flatMap fc)) : Yl c tm C F o (.pointer (some ((gA A).add (j * sz)))) :=
  y_idxN j ho ht hz hx hy hj h fun w hs => (hA w hs).some_ (fl_ne hf l h0 j (by omega))
theorem y_fpart {ad : Addr} {f k q : Nat} (ho : o.op = .fieldAddr t x f) (hf : fO c.P t f = some k) (hx : ev tm x = some (.pointer (some (ad.add q)))) : Yl c tm C F o (.pointer (some (ad.add (q + k)))) :=
  (y_fieldp ho hf hx).to (by rw [add_add])
theorem y_fld1 {α : Type} {fc : α → List Value} {sz : Nat} (hf : ∀ x, (fc x).length = sz) {A : Option Addr} {j q : Nat} {l : List α} (u : α) (ho : o.op = .load t x) (hg : aggO c.P t = some false) (hx : ev tm x = some (.pointer (some ((gA A).add (j * sz + q))))) (hj : l[j]? = some u) (hq : q < sz) (hv' : (fc u)[q]? = some v) (hA : ∀ w, St c w C F → Sl w A (l.flatMap fc)) : Yl c tm C F o v :=
  y_lsl ho hg hx hA (by rw [fl_get hf l j u hj q hq, hv'])
theorem y_fldA {α : Type} {fc : α → List Value} {sz : Nat} (hf : ∀ x, (fc x).length = sz) {A : Option Addr} {j q : Nat} {l : List α} {vs : List Value} (u : α) (ho : o.op = .load t x) (hg : aggO c.P t = some true) (hs : szO c.P t = some vs.length) (hx : ev tm x = some (.pointer (some ((gA A).add (j * sz + q))))) (hj : l[j]? = some u) (hq : q + vs.length ≤ sz) (hv' : ((fc u).drop q).take vs.length = vs) (h0 : vs ≠ []) (hA : ∀ w, St c w C F → Sl w A (l.flatMap fc)) : Yl c tm C F o (.agg vs.toArray) :=
  y_lslA ho hg hs hx hA (by rw [fl_at hf l j u hj q _ hq, hv']) h0
theorem J.appendG {n m n' kc sz by' : Nat} {B : Option Addr} {zv : Value} {xs news xs' : List Value} (i : Nat) (ho : o.op = .call { callee := .builtin .append, args := #[x, y], argTypes := #[t, t] }) (hg : o.guard = none) (hd : o.dst = some d) (hn : Nat.ble (d + 1) c.n = true)
    (hx : ev tm x = some v) (hy : ev tm y = some (.slice B m kc)) (ht : c.P.underlying t = some (.slice e)) (hz : zO c.P e = some zv) (hs : szO c.P e = some sz) (hb : byO c.P e = some by') (hzs : zv.cells.size = sz) (h0 : 0 < sz)
    (hC : C[i]? = some (.row v e sz n xs)) (hl : news.length = m * sz) (hsl : ∀ w, St c w C F → Sl w B news) (h1 : ∀ u ∈ news, u.oneCell' = true) (hm : n + m ≤ 10000000) (hby : by' ≤ 10000) (hn' : n + m = n') (hxs' : xs ++ news = xs')
    (h : ∀ A k, (A = none → n' = 0) → n' ≤ k → J c ops Q l ((d, .slice A n' k) :: tm) (C.set i (.row (.slice A n' k) e sz n' xs')) F) : J c ops Q (o :: l) tm C F := by
  subst hn'; subst hxs'
  exact J.ef (S' := True) hg hd hn fun a w ha hst => by
    have hbb : (n + m) * by' ≤ 140737488355328 := Nat.le_trans (Nat.mul_le_mul hm hby) (by decide)
    obtain ⟨v', w', hr, hrow, hgr, hbl⟩ := run_append' (P := c.P) (w := w) (ty := o.type) (kc := kc) ht hz hs hb hzs h0 (hst.get hC) hl (hsl w hst) h1 (by unfold maxLen; omega) hbb
    obtain ⟨A, k, rfl, hA, hk⟩ := slice_of_row hrow
    refine ⟨_, w', ?_, _, _, hst.upd hC (y := .row (.slice A (n + m) k) e sz (n + m) (xs ++ news)) (Fr.grown hgr) hrow (fun g hg' => ?_), h A k hA hk⟩
    · simp only [execOp, ho, resolve, invoke, builtin, Sem.run_bind, Sem.run_pure, Result.andThen_ok, List.map_toArray, List.map_cons, List.map_nil, ha.ev hx, ha.ev hy, hr]
    · rcases hbl with h' | h'
      · exact .inl (show v.ownBlock = some g from h'.symm.trans hg')
      · simp only [Chunk.own] at hg'; rw [h'] at hg'; injection hg' with hg'; exact .inr (by omega)
/-- append([]T(nil), s...) -/
theorem J.appNilG {m kc sz by' : Nat} {B : Option Addr} {zv : Value} (news : List Value) (ho : o.op = .call { callee := .builtin .append, args := #[x, y], argTypes := #[t, t] }) (hg : o.guard = none) (hd : o.dst = some d) (hn : Nat.ble (d + 1) c.n = true)
    (hx : ev tm x = some (.slice none 0 0)) (hy : ev tm y = some (.slice B m kc)) (ht : c.P.underlying t = some (.slice e)) (hz : zO c.P e = some zv) (hs : szO c.P e = some sz) (hb : byO c.P e = some by') (hzs : zv.cells.size = sz) (h0 : 0 < sz)
    (hl : news.length = m * sz) (hsl : ∀ w, St c w C F → Sl w B news) (h1 : ∀ u ∈ news, u.oneCell' = true) (hm : m ≤ 10000000) (hby : by' ≤ 10000)
    (h : ∀ A k, m ≤ k → J c ops Q l ((d, .slice A m k) :: tm) (.row (.slice A m k) e sz m news :: C) F) : J c ops Q (o :: l) tm C F := by
  refine J.st ?_ (fun w hs => hs.nilrow e sz)
  exact J.appendG 0 ho hg hd hn hx hy ht hz hs hb hzs h0 rfl hl (fun w hs => hsl w (hs.forget (List.sublist_cons_self _ _))) h1 (by omega) hby (by omega) (List.nil_append _) fun A k _ hk => h A k hk
end
/-! ### trees of a size; numbers -/
def tc (t : Nat × H) : List Value := .int .i64 (t.1 : Int) :: hc t.2
theorem tcl (t : Nat × H) : (tc t).length = 33 := by simp [tc]
def tcs (l : List (Nat × H)) : List Value := l.flatMap tc
theorem tcs_len (l : List (Nat × H)) : (tcs l).length = l.length * 33 := fl_len tcl l
theorem tcs1 (l : List (Nat × H)) : ∀ u ∈ tcs l, u.oneCell' = true := by
  intro u hu
  obtain ⟨t, _, hh⟩ := List.mem_flatMap.1 hu
  rcases List.mem_cons.1 hh with rfl | h
  · rfl
  · exact hc1 _ u h
theorem tcs_app (a b : List (Nat × H)) : tcs (a ++ b) = tcs a ++ tcs b := List.flatMap_append
theorem tcs_one (t : Nat × H) : tcs [t] = tc t := by simp [tcs]
theorem fill_T (k : Int) (h : H) : Instr.fill (fun i : Nat => [(0, 1), (1, 32)][i]?) ((.int .i64 0 :: hc H.zero).toArray : Array Value) [(0, .int .i64 k), (1, hv h)] = some (.int .i64 k :: hc h).toArray := by
  rw [fill_one (vs := [.int .i64 k]) (off := 0) rfl rfl (Nat.le_of_ble_eq_true rfl), fill_one (vs := hc h) (off := 1) (by rw [hcl]; rfl) rfl (by simp [spl]), Instr.fill]
  congr 2
  simp [spl]
def ints (l : List Nat) : List Value := l.map fun n : Nat => .int .i64 (n : Int)
theorem ints_len (l : List Nat) : (ints l).length = l.length := by simp [ints]
theorem ints1 (l : List Nat) : ∀ u ∈ ints l, u.oneCell' = true := by
  intro u hu
  obtain ⟨n, _, rfl⟩ := List.mem_map.1 hu
  rfl
theorem ints_get (l : List Nat) (i n : Nat) (h : l[i]? = some n) : (ints l)[i]? = some (.int .i64 (n : Int)) := by
  rw [ints, List.getElem?_map, h]; rfl
end Go.Sx
