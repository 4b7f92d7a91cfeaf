/- Speculum proofs: the plain side: hashes, words, SHA-256. No program in sight. -/
import Derived.Test.YtjkfeonbioccmaaDoorSxDraw
namespace Go.Sx
open Go Go.RowKit
set_option linter.unusedVariables false
set_option linter.unusedSimpArgs false

/-- A hash: 32 bytes. -/
structure H where
  b : List UInt8
  l : b.length = 32
theorem H.ext' {x y : H} (h : x.b = y.b) : x = y := by
  cases x; cases y; cases h; rfl
instance : DecidableEq H := fun x y => if h : x.b = y.b then isTrue (H.ext' h) else isFalse (fun e => h (e ▸ rfl))
def H.zero : H := ⟨List.replicate 32 0, rfl⟩
/-- The cells of a hash; its value. -/
def hc (h : H) : List Value := h.b.map u8
def hv (h : H) : Value := .agg (hc h).toArray
theorem hcl (h : H) : (hc h).length = 32 := by simp [hc, h.l]
@[simp] theorem length_hc (h : H) : (hc h).length = 32 := hcl h
theorem one_u8 (x : UInt8) : (u8 x).oneCell' = true := rfl
theorem hc1 (h : H) : ∀ u ∈ hc h, u.oneCell' = true := by
  intro u hu
  obtain ⟨x, _, rfl⟩ := List.mem_map.1 hu
  rfl
theorem u8_inj {x y : UInt8} : u8 x = u8 y ↔ x = y := by
  constructor
  · intro h
    injection h with _ h
    exact UInt8.toNat_inj.1 (by omega)
  · rintro rfl; rfl
/-- The cells of a list of hashes. -/
def hcs (l : List H) : List Value := l.flatMap hc
@[simp] theorem length_hcs (l : List H) : (hcs l).length = l.length * 32 := by
  induction l with
  | nil => rfl
  | cons h r ih => simp only [hcs, List.flatMap_cons, List.length_append, hcl, List.length_cons] at ih ⊢; rw [ih]; omega
theorem hcs1 (l : List H) : ∀ u ∈ hcs l, u.oneCell' = true := by
  intro u hu
  obtain ⟨h, _, hh⟩ := List.mem_flatMap.1 hu
  exact hc1 h u hh
theorem hcs_append (a b : List H) : hcs (a ++ b) = hcs a ++ hcs b := List.flatMap_append
theorem hcs_one (h : H) : hcs [h] = hc h := by simp [hcs]
theorem hcs_cons (h : H) (l : List H) : hcs (h :: l) = hc h ++ hcs l := by simp [hcs]
theorem hcs_drop (l : List H) (k : Nat) : (hcs l).drop (k * 32) = hcs (l.drop k) := by
  induction l generalizing k with
  | nil => simp [hcs]
  | cons h r ih =>
    cases k with
    | zero => simp
    | succ k =>
      rw [hcs_cons, List.drop_succ_cons, show (k + 1) * 32 = 32 + k * 32 by omega, ← List.drop_drop, List.drop_left' (hcl h), ih]
theorem hcs_take (l : List H) (k : Nat) : (hcs l).take (k * 32) = hcs (l.take k) := by
  induction l generalizing k with
  | nil => simp [hcs]
  | cons h r ih =>
    cases k with
    | zero => simp [hcs]
    | succ k =>
      rw [hcs_cons, List.take_succ_cons, hcs_cons, show (k + 1) * 32 = 32 + k * 32 by omega, List.take_append, hcl, List.take_of_length_le (by rw [hcl]; omega), show 32 + k * 32 - 32 = k * 32 by omega, ih]
theorem hcs_get (l : List H) (k : Nat) (h : H) (hk : l[k]? = some h) : ((hcs l).drop (k * 32)).take 32 = hc h := by
  rw [hcs_drop]
  obtain ⟨r, hr⟩ : ∃ r, l.drop k = h :: r := by
    have hlt := (List.getElem?_eq_some_iff.1 hk).1
    refine ⟨l.drop (k + 1), ?_⟩
    rw [List.drop_eq_getElem_cons hlt, (List.getElem?_eq_some_iff.1 hk).2]
  rw [hr, hcs_cons, List.take_left' (hcl h)]

/-! ### '==' of two hashes -/
theorem forIn_all {w : World} {P : Program} (body : Nat → Option Bool × Unit → Sem (ForInStep (Option Bool × Unit))) (g : Nat → Bool) (n : Nat) (hb : ∀ i r, i < n → (body i r).run P w = .ok (if g i then .yield (none, ()) else .done (some false, ())) w) : ∀ (k s : Nat), s + k = n →
    ((forIn (List.range' s k) ((none, ()) : Option Bool × Unit) body).run P w) = .ok (if (List.range' s k).all g then (none, ()) else (some false, ())) w := by
  intro k
  induction k with
  | zero => intro s _; simp
  | succ k ih =>
    intro s hs
    rw [List.range'_succ, List.forIn_cons]
    simp only [Sem.run_bind, hb s _ (by omega), Result.andThen_ok]
    cases hg : g s with
    | false => simp [hg]
    | true =>
      simp only [if_true, Sem.run_pure, Result.andThen_ok, List.all_cons, hg, Bool.true_and]
      exact ih (s + 1) (by omega)
theorem eqIn_u8 (P : Program) (w : World) (d : Nat) {t : TypeId} (ht : P.underlying t = some (.int .u8)) (a b : UInt8) : (Op.equalIn (d + 1) t (u8 a) (u8 b)).run P w = .ok (decide (a = b)) w := by
  rw [u8, u8, run_equalIn_int w d t .u8 .u8 _ _ ht]
  congr 1
  rw [Bool.eq_iff_iff]
  simp only [beq_iff_eq, decide_eq_true_eq]
  constructor
  · intro h; exact UInt8.toNat_inj.1 (by omega)
  · rintro rfl; rfl
theorem eqIn_hash (P : Program) (w : World) (d : Nat) {t e : TypeId} (ht : P.underlying t = some (.array 32 e)) (he : P.underlying e = some (.int .u8)) (ha : aggO P e = some false) (hz : szO P e = some 1) (x y : H) :
    (Op.equalIn (d + 2) t (hv x) (hv y)).run P w = .ok (decide (x = y)) w := by
  have hpart : ∀ (h : H) i, i < 32 → (part e (hc h).toArray (i * 1)).run P w = .ok (u8 (h.b.getD i 0)) w := by
    intro h i hi
    have hlt : i < h.b.length := by rw [h.l]; exact hi
    simp only [part, Sem.run_bind, run_isAgg ha, Result.andThen_ok, Bool.false_eq_true, if_false, Nat.mul_one]
    have : (hc h).toArray[i]? = some (u8 (h.b.getD i 0)) := by simp [hc, List.getElem?_eq_getElem hlt]
    rw [this]; rfl
  have hdec : ((List.range' 0 32).all fun i => decide (x.b.getD i 0 = y.b.getD i 0)) = decide (x = y) := by
    rw [Bool.eq_iff_iff, List.all_eq_true]
    simp only [decide_eq_true_eq]
    constructor
    · intro h
      apply H.ext'
      apply List.ext_getElem
      · rw [x.l, y.l]
      · intro i h1 h2
        have := h i (by rw [List.mem_range']; exact ⟨i, by rw [x.l] at h1; omega, by omega⟩)
        simpa [List.getElem?_eq_getElem h1, List.getElem?_eq_getElem h2] using this
    · rintro rfl i _; rfl
  rw [show d + 2 = (d + 1) + 1 by omega]
  rw [Op.equalIn]
  simp only [hv, Sem.run_bind, run_underlying ht, Result.andThen_ok, run_szO hz]
  rw [Std.Legacy.Range.forIn_eq_forIn_range']
  rw [show (List.range' (Std.Legacy.Range.start [:32]) (Std.Legacy.Range.size [:32]) (Std.Legacy.Range.step [:32])) = List.range' 0 32 from rfl]
  rw [forIn_all _ (fun i => decide (x.b.getD i 0 = y.b.getD i 0)) 32 (fun i r hi => by
    simp only [Sem.run_bind, hpart x i hi, hpart y i hi, Result.andThen_ok, eqIn_u8 P w d he]
    cases hq : decide (x.b.getD i 0 = y.b.getD i 0) <;> rfl) 32 0 rfl, hdec]
  cases hq : decide (x = y) <;> rfl
section
variable {c : Cx} {tm : Env} {C : List Chunk} {F : World → Prop} {o : Oper} {x y : Operand} {t t' e : TypeId}
theorem y_heq {a b : H} (ho : o.op = .binOp .eql t x y t') (ht : c.P.underlying t = some (.array 32 e)) (he : c.P.underlying e = some (.int .u8)) (ha : aggO c.P e = some false) (hz : szO c.P e = some 1) (hg : c.P.eqGuardType c.P.depth t = false)
    (hx : ev tm x = some (hv a)) (hy : ev tm y = some (hv b)) : Yl c tm C F o (.bool (decide (a = b))) := fun ac w hag hs => by
  simp only [execOp, ho, hag.ev hx, hag.ev hy, Sem.run_bind]
  rw [hv, hv, run_eqGuard_agg w .eql t x y _ _ hg]
  simp only [Result.andThen_ok, binOp, Sem.run_bind]
  rw [← hv, ← hv, equal_of c.P w fun d => eqIn_hash c.P w d ht he ha hz a b]
  simp
theorem y_hne {a b : H} (ho : o.op = .binOp .neq t x y t') (ht : c.P.underlying t = some (.array 32 e)) (he : c.P.underlying e = some (.int .u8)) (ha : aggO c.P e = some false) (hz : szO c.P e = some 1) (hg : c.P.eqGuardType c.P.depth t = false)
    (hx : ev tm x = some (hv a)) (hy : ev tm y = some (hv b)) : Yl c tm C F o (.bool (!decide (a = b))) := fun ac w hag hs => by
  simp only [execOp, ho, hag.ev hx, hag.ev hy, Sem.run_bind]
  rw [hv, hv, run_eqGuard_agg w .neq t x y _ _ hg]
  simp only [Result.andThen_ok, binOp, Sem.run_bind]
  rw [← hv, ← hv, equal_of c.P w fun d => eqIn_hash c.P w d ht he ha hz a b]
  simp
end
end Go.Sx
