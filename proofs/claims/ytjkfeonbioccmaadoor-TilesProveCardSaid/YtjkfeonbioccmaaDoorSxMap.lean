/- Speculum proofs: maps of hashes by two numbers. -/
import Derived.Test.YtjkfeonbioccmaaDoorSxX
import Derived.DeepKeys4
import Derived.MapKept
import Derived.MapFrom
import Derived.Laws.Pointers
import Derived.WalkSpells
namespace Go.Sx
open Go Go.RowKit
open Go.WideMaps (KeyLaw)
set_option linter.unusedVariables false
set_option linter.unusedSimpArgs false
/-- Two numbers as a key. -/
def kv (a b : Int) : Value := .agg #[.int .i64 a, .int .i64 b]
theorem kv_inj {a b a' b' : Int} (h : kv a b = kv a' b') : a = a' ∧ b = b' := by
  simp only [kv, Value.agg.injEq, Array.mk.injEq, List.cons.injEq, Value.int.injEq, true_and, and_true] at h
  exact h
def in64 (a : Int) : Prop := -9223372036854775808 ≤ a ∧ a ≤ 9223372036854775807
/-- The key's type: two numbers. -/
structure MK (P : Program) (k : TypeId) : Prop where
  law : KeyLaw P k
  key : ∀ a b, in64 a → in64 b → ∃ l, keyOf P k (kv a b) = some l
/-- A map that says what f says. -/
structure Mp (es : Array MapEntry) (f : Int → Int → Option H) : Prop where
  look : ∀ e ∈ es.toList, ∃ a b h, in64 a ∧ in64 b ∧ e.key = kv a b ∧ e.val = hv h ∧ f a b = some h
  has : ∀ a b h, f a b = some h → ∃ e ∈ es.toList, e.key = kv a b
  nodup : es.toList.Pairwise fun x y => x.key ≠ y.key
theorem Mp.nil : Mp #[] (fun _ _ => none) := ⟨fun _ h => (by simp at h), fun _ _ _ h => (by cases h), (by simp)⟩
theorem Mp.to {es : Array MapEntry} {f f' : Int → Int → Option H} (h : Mp es f) (e : ∀ a b, f a b = f' a b) : Mp es f' := by
  have : f = f' := funext fun a => funext fun b => e a b
  rwa [this] at h
def updM (f : Int → Int → Option H) (a b : Int) (h : H) : Int → Int → Option H := fun a' b' => if a' = a ∧ b' = b then some h else f a' b'
theorem modify_eq_set' (l : List MapEntry) (j : Nat) (e0 : MapEntry) (g : MapEntry → MapEntry) (h : l[j]? = some e0) : l.modify j g = l.set j (g e0) := by
  apply List.ext_getElem?
  intro i
  rw [List.getElem?_modify, List.getElem?_set]
  by_cases hij : j = i
  · subst hij
    rw [if_pos rfl, if_pos (List.getElem?_eq_some_iff.1 h).1, h]; simp
  · rw [if_neg hij]; simp [hij]
theorem pair_ne {l : List MapEntry} (h : l.Pairwise fun x y => x.key ≠ y.key) {i j : Nat} (hij : i ≠ j) {x y : MapEntry} (hx : l[i]? = some x) (hy : l[j]? = some y) : x.key ≠ y.key := by
  obtain ⟨h1, e1⟩ := List.getElem?_eq_some_iff.1 hx
  obtain ⟨h2, e2⟩ := List.getElem?_eq_some_iff.1 hy
  rw [List.pairwise_iff_getElem] at h
  rcases Nat.lt_or_gt_of_ne hij with h3 | h3
  · have := h i j h1 h2 h3
    rwa [e1, e2] at this
  · have := h j i h2 h1 h3
    rw [e1, e2] at this
    exact this.symm
theorem pair_set {l : List MapEntry} (h : l.Pairwise fun x y => x.key ≠ y.key) {j : Nat} {e0 e1 : MapEntry} (h2 : l[j]? = some e0) (he : e0.key = e1.key) : (l.set j e1).Pairwise fun x y => x.key ≠ y.key := by
  have e : (l.set j e1).map (·.key) = l.map (·.key) := by
    apply List.ext_getElem?
    intro i
    rw [List.getElem?_map, List.getElem?_map, List.getElem?_set]
    by_cases hij : j = i
    · subst hij
      rw [if_pos rfl, if_pos (List.getElem?_eq_some_iff.1 h2).1, h2]; simp [he]
    · rw [if_neg hij]
  have h3 : (l.map (·.key)).Pairwise (· ≠ ·) := by rw [List.pairwise_map]; exact h
  rw [← e, List.pairwise_map] at h3
  exact h3
section
variable {P : Program} {k e t : TypeId} {es : Array MapEntry} {clock g : Nat} {f : Int → Int → Option H} {w : World} {a b : Int}
theorem Mp.keys (hK : MK P k) (hM : Mp es f) : ∀ x ∈ es.toList, ∃ l, keyOf P k x.key = some l := fun x hx => by
  obtain ⟨a, b, h, ha, hb, e, _⟩ := hM.look x hx
  rw [e]; exact hK.key a b ha hb
theorem run_look (hK : MK P k) (ht : P.underlying t = some (.map k e)) (hz : zO P e = some (hv H.zero)) (ha : in64 a) (hb : in64 b) (hw : w.heap[g]? = some (.map es clock)) (hM : Mp es f) (ok : Bool) :
    (Instr.lookup t (.map (some g)) (kv a b) ok).run P w = .ok (if ok then .tuple #[hv ((f a b).getD H.zero), .bool (f a b).isSome] else hv ((f a b).getD H.zero)) w := by
  obtain ⟨lit, hkey⟩ := hK.key a b ha hb
  rcases hK.law.find w hkey es.toList (hM.keys hK) with ⟨h1, h2⟩ | ⟨j, e0, h1, h2, h3⟩
  · have hn : f a b = none := by
      cases hf : f a b with
      | none => rfl
      | some h =>
        obtain ⟨x, hx, e⟩ := hM.has a b h hf
        exact absurd e (h2 x hx)
    rw [hn]
    simp [Instr.lookup, run_underlying ht, MapKept.run_getObj_map hw, hK.law.check w _ hkey, h1, run_zO hz, Result.andThen]
  · obtain ⟨a', b', h, _, _, e1, e2, e3⟩ := hM.look e0 (List.mem_of_getElem? h2)
    obtain ⟨rfl, rfl⟩ := kv_inj (h3.symm.trans e1)
    rw [e3]
    simp [Instr.lookup, run_underlying ht, MapKept.run_getObj_map hw, hK.law.check w _ hkey, h1, e2, Result.andThen]
theorem run_upd (hK : MK P k) (ht : P.underlying t = some (.map k e)) (ha : in64 a) (hb : in64 b) (hw : w.heap[g]? = some (.map es clock)) (hM : Mp es f) (h : H) :
    ∃ es' clock', (Instr.mapUpdate t (.map (some g)) (kv a b) (hv h)).run P w = .ok () { w with heap := w.heap.setIfInBounds g (.map es' clock') } ∧ Mp es' (updM f a b h) := by
  obtain ⟨lit, hkey⟩ := hK.key a b ha hb
  rcases hK.law.find w hkey es.toList (hM.keys hK) with ⟨h1, h2⟩ | ⟨j, e0, h1, h2, h3⟩
  · refine ⟨es.push ⟨kv a b, hv h, clock⟩, clock + 1, ?_, ?_, ?_, ?_⟩
    · simp [Instr.mapUpdate, run_underlying ht, MapKept.run_getObj_map hw, hK.law.check w false hkey, h1, MapKept.run_setObj_map _ hw, Result.andThen]
    · intro x hx
      simp only [Array.toList_push, List.mem_append, List.mem_singleton] at hx
      rcases hx with hx | rfl
      · obtain ⟨a', b', h', c1, c2, c3, c4, c5⟩ := hM.look x hx
        refine ⟨a', b', h', c1, c2, c3, c4, ?_⟩
        unfold updM
        rw [if_neg]
        · exact c5
        · rintro ⟨rfl, rfl⟩; exact h2 x hx c3
      · exact ⟨a, b, h, ha, hb, rfl, rfl, if_pos ⟨rfl, rfl⟩⟩
    · intro a' b' h' hf
      unfold updM at hf
      split at hf
      · rename_i hc
        obtain ⟨rfl, rfl⟩ := hc
        exact ⟨⟨kv a' b', hv h, clock⟩, by simp, rfl⟩
      · obtain ⟨x, hx, e⟩ := hM.has a' b' h' hf
        exact ⟨x, by simp [hx], e⟩
    · rw [Array.toList_push, List.pairwise_append]
      exact ⟨hM.nodup, by simp, fun x hx y hy => by rw [List.mem_singleton.1 hy]; exact h2 x hx⟩
  · have hj : es[j]? = some e0 := by simpa using h2
    refine ⟨es.modify j (fun e' => { e' with key := kv a b, val := hv h }), clock, ?_, ?_, ?_, ?_⟩
    · simp [Instr.mapUpdate, run_underlying ht, MapKept.run_getObj_map hw, hK.law.check w false hkey, h1, hj, h3, hK.law.stays w hkey, MapKept.run_setObj_map _ hw, Result.andThen]
    all_goals rw [Array.toList_modify, modify_eq_set' _ _ _ _ h2]
    · intro x hx
      rcases List.mem_or_eq_of_mem_set hx with hx' | rfl
      · obtain ⟨i, hi⟩ := List.mem_iff_getElem?.1 hx
        obtain ⟨a', b', h', c1, c2, c3, c4, c5⟩ := hM.look x hx'
        by_cases hij : j = i
        · subst hij
          rw [List.getElem?_set_self (List.getElem?_eq_some_iff.1 h2).1] at hi
          injection hi with hi
          subst hi
          exact ⟨a, b, h, ha, hb, rfl, rfl, if_pos ⟨rfl, rfl⟩⟩
        · rw [List.getElem?_set_ne hij] at hi
          refine ⟨a', b', h', c1, c2, c3, c4, ?_⟩
          unfold updM
          rw [if_neg]
          · exact c5
          · rintro ⟨rfl, rfl⟩
            exact pair_ne hM.nodup hij h2 hi (h3.trans c3.symm)
      · exact ⟨a, b, h, ha, hb, rfl, rfl, if_pos ⟨rfl, rfl⟩⟩
    · intro a' b' h' hf
      unfold updM at hf
      split at hf
      · rename_i hc
        obtain ⟨rfl, rfl⟩ := hc
        exact ⟨_, List.mem_of_getElem? (List.getElem?_set_self (List.getElem?_eq_some_iff.1 h2).1), rfl⟩
      · rename_i hc
        obtain ⟨x, hx, e⟩ := hM.has a' b' h' hf
        obtain ⟨i, hi⟩ := List.mem_iff_getElem?.1 hx
        by_cases hij : j = i
        · subst hij
          rw [h2] at hi
          injection hi with hi
          subst hi
          rw [h3] at e
          obtain ⟨rfl, rfl⟩ := kv_inj e
          exact absurd ⟨rfl, rfl⟩ hc
        · exact ⟨x, List.mem_of_getElem? ((List.getElem?_set_ne hij).trans hi), e⟩
    · refine pair_set hM.nodup h2 ?_
      exact h3
end
section
variable {c : Cx} {ops : Array Oper} {Q : Exit → Act → World → Prop} {tm : Env} {C : List Chunk} {F : World → Prop} {l : List Oper} {o : Oper} {x y z : Operand} {t k e : TypeId} {d g clock : Nat} {es : Array MapEntry} {f : Int → Int → Option H} {a b : Int}
theorem y_look1 (hK : MK c.P k) (ho : o.op = .lookup t x y false) (ht : c.P.underlying t = some (.map k e)) (hz : zO c.P e = some (hv H.zero)) (hx : ev tm x = some (.map (some g))) (hy : ev tm y = some (kv a b)) (ha : in64 a) (hb : in64 b) (hM : Mp es f) (hr : ∀ w, St c w C F → w.heap[g]? = some (.map es clock)) : Yl c tm C F o (hv ((f a b).getD H.zero)) := fun ac w hag hs => by
  simp only [execOp, ho, hag.ev hx, hag.ev hy, Sem.run_bind, run_look hK ht hz ha hb (hr w hs) hM]; rfl
theorem y_look2 (hK : MK c.P k) (ho : o.op = .lookup t x y true) (ht : c.P.underlying t = some (.map k e)) (hz : zO c.P e = some (hv H.zero)) (hx : ev tm x = some (.map (some g))) (hy : ev tm y = some (kv a b)) (ha : in64 a) (hb : in64 b) (hM : Mp es f) (hr : ∀ w, St c w C F → w.heap[g]? = some (.map es clock)) : Yl c tm C F o (.tuple #[hv ((f a b).getD H.zero), .bool (f a b).isSome]) := fun ac w hag hs => by
  simp only [execOp, ho, hag.ev hx, hag.ev hy, Sem.run_bind, run_look hK ht hz ha hb (hr w hs) hM]; rfl
theorem J.makeMap (ho : o.op = .makeMap t none) (hg : o.guard = none) (hd : o.dst = some d) (hn : Nat.ble (d + 1) c.n = true) (h : ∀ g, J c ops Q l ((d, .map (some g)) :: tm) (.mp g (.map #[] 0) :: C) F) : J c ops Q (o :: l) tm C F :=
  J.ef (S' := True) hg hd hn fun ac w hag hst => by
    refine ⟨_, w.alloc (.map #[] 0), ?_, _, _, hst.push (Fr.alloc _ _ _) (x := .mp w.heap.size (.map #[] 0)) (by show (w.heap.push _)[w.heap.size]? = _; simp) (fun k hk => by simp only [Chunk.own, Option.some.injEq] at hk; omega), h _⟩
    simp only [execOp, ho, Option.map_none, Instr.makeMap, newObj, Sem.run_bind]; rfl
theorem J.mapUpd (i : Nat) (h' : H) (hK : MK c.P k) (ho : o.op = .mapUpdate t x y z) (hg : o.guard = none) (hd : o.dst = none) (ht : c.P.underlying t = some (.map k e)) (hx : ev tm x = some (.map (some g))) (hy : ev tm y = some (kv a b)) (hz : ev tm z = some (hv h')) (ha : in64 a) (hb : in64 b)
    (hC : C[i]? = some (.mp g (.map es clock))) (hM : Mp es f) (h : ∀ es' clock', Mp es' (updM f a b h') → J c ops Q l tm (C.set i (.mp g (.map es' clock'))) F) : J c ops Q (o :: l) tm C F :=
  J.eu hg hd fun ac w hag hs => by
    have hsat : w.heap[g]? = some (.map es clock) := hs.get hC
    obtain ⟨es', clock', hr, hM'⟩ := run_upd (P := c.P) hK ht ha hb hsat hM h'
    refine ⟨_, ?_, _, _, hs.upd hC (y := .mp g (.map es' clock')) (w' := { w with heap := w.heap.setIfInBounds g (.map es' clock') }) ⟨rfl, rfl, rfl, by simp, fun k hk hn => ?_⟩ ?_ (fun k hk => .inl hk), h es' clock' hM'⟩
    · simp only [execOp, ho, hag.ev hx, hag.ev hy, hag.ev hz, Sem.run_bind, hr]; rfl
    · have : g ≠ k := fun e => hn (by simp [Chunk.own, e])
      simp [Array.getElem?_setIfInBounds, this]
    · have hlt := lt_of_some hsat
      simp [Chunk.sat, hlt]
theorem eqG_ptr {op : BinOp} {p : Option Addr} {v : Value} : eqGuard op t x y (.pointer p) v = pure () := by cases op <;> rfl
theorem eqG_map {op : BinOp} {p : Option Nat} {v : Value} : eqGuard op t x y (.map p) v = pure () := by cases op <;> rfl
theorem y_pnil {A : Option Addr} {t' : TypeId} (ho : o.op = .binOp .eql t x y t') (ht : c.P.underlying t = some (.pointer e)) (hx : ev tm x = some (.pointer A)) (hy : ev tm y = some (.pointer none)) : Yl c tm C F o (.bool A.isNone) :=
  y_bin ho hx hy eqG_ptr fun w _ => by
    have h : ∀ d, (Op.equalIn (d + 1) t (.pointer A) (.pointer none)).run c.P w = .ok A.isNone w := fun d => by cases A <;> simp [Op.equalIn, run_underlying ht]
    simp only [binOp]
    simp [Op.equal, Op.maxDepth, h 9999]
theorem y_pnn {A : Option Addr} {t' : TypeId} (ho : o.op = .binOp .neq t x y t') (ht : c.P.underlying t = some (.pointer e)) (hx : ev tm x = some (.pointer A)) (hy : ev tm y = some (.pointer none)) : Yl c tm C F o (.bool (!A.isNone)) :=
  y_bin ho hx hy eqG_ptr fun w _ => by
    have h : ∀ d, (Op.equalIn (d + 1) t (.pointer A) (.pointer none)).run c.P w = .ok A.isNone w := fun d => by cases A <;> simp [Op.equalIn, run_underlying ht]
    simp only [binOp]
    simp [Op.equal, Op.maxDepth, h 9999]
theorem y_mnil {A : Option Nat} {t' : TypeId} (ho : o.op = .binOp .eql t x y t') (ht : c.P.underlying t = some (.map k e)) (hx : ev tm x = some (.map A)) (hy : ev tm y = some (.map none)) : Yl c tm C F o (.bool A.isNone) :=
  y_bin ho hx hy eqG_map fun w _ => by
    have h : ∀ d, (Op.equalIn (d + 1) t (.map A) (.map none)).run c.P w = .ok A.isNone w := fun d => by cases A <;> simp [Op.equalIn, run_underlying ht]
    simp only [binOp]
    simp [Op.equal, Op.maxDepth, h 9999]
end
end Go.Sx
