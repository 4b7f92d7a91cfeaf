/- Speculum proofs: regions that draw their order. After the kit's 'wpAnyH' (Derived/OrdersHeld.lean), but the condition S is asked anew only behind operations that some other one is not ordered with. -/
import Derived.Test.YtjkfeonbioccmaaDoorSxCall
namespace Go.Sx
open Go Go.RowKit
set_option linter.unusedVariables false
set_option linter.unusedSimpArgs false

section
variable {P : Program} {ops : Array Oper} {Q : Exit → Act → World → Prop} {S : World → Prop}
/-- Does j wait for i? -/
def waits (ops : Array Oper) (j i : Nat) : Bool := match ops[j]? with
  | some o => o.after.any fun e => Region.binds .any e && e.on == i
  | none => false
/-- What an operation waits for, itself and through others: a mask for each operation. -/
def preds (o : Oper) : List Nat := (o.after.toList.filter fun e => Region.binds .any e).map (·.on)
def maskOf (ms : List Nat) : List Nat → Nat
  | [] => 0
  | k :: ks => (2 ^ k ||| ms.getD k 0) ||| maskOf ms ks
def ancs : List Oper → List Nat → List Nat
  | [], ms => ms
  | o :: r, ms => ancs r (ms ++ [maskOf ms (preds o)])
def before (ops : Array Oper) (ms : List Nat) (j i : Nat) : Bool := match ops[j]? with
  | some o => (maskOf ms (preds o)).testBit i
  | none => false
/-- Is there another operation that j isn't ordered with? -/
def loose (ops : Array Oper) (j : Nat) : Bool := (List.range ops.size).any fun i => !(i == j) && (!(waits ops j i) && (!(waits ops i j) && (!(before ops (ancs ops.toList []) j i) && !(before ops (ancs ops.toList []) i j))))
/-- What has come up has come up behind all that it waits for. -/
def Closed (ops : Array Oper) (listed : Array Bool) : Prop := ∀ k o, ops[k]? = some o → listed.getD k false = true → ∀ e ∈ o.after, Region.binds .any e = true → listed.getD e.on false = true
def closedB (ops : Array Oper) (listed : Array Bool) : Bool := (List.range ops.size).all fun k => !(listed.getD k false) || match ops[k]? with
  | some o => o.after.all fun e => !(Region.binds .any e) || listed.getD e.on false
  | none => true
theorem closed_of {listed : Array Bool} (h : closedB ops listed = true) : Closed ops listed := by
  intro k o hk hl e he hb
  have hlt : k < ops.size := (Array.getElem?_eq_some_iff.1 hk).1
  have := List.all_eq_true.1 h k (List.mem_range.2 hlt)
  rw [hk, hl] at this
  simp only [Bool.not_true, Bool.false_or] at this
  have h2 := Array.all_eq_true'.1 this e he
  rw [hb] at h2
  simpa using h2
theorem mem_maskOf {ms : List Nat} {i : Nat} : ∀ {ks : List Nat}, (maskOf ms ks).testBit i = true → ∃ k ∈ ks, i = k ∨ (ms.getD k 0).testBit i = true
  | [], h => by simp [maskOf] at h
  | k :: ks, h => by
    rw [maskOf, Nat.testBit_or, Nat.testBit_or, Bool.or_eq_true, Bool.or_eq_true] at h
    rcases h with (h | h) | h
    · refine ⟨k, List.mem_cons_self .., .inl ?_⟩
      rw [Nat.testBit_two_pow] at h
      simpa using (of_decide_eq_true h).symm
    · exact ⟨k, List.mem_cons_self .., .inr h⟩
    · obtain ⟨q, hq, h'⟩ := mem_maskOf h
      exact ⟨q, List.mem_cons_of_mem _ hq, h'⟩
theorem mem_preds {o : Oper} {k : Nat} (h : k ∈ preds o) : ∃ e ∈ o.after, Region.binds .any e = true ∧ e.on = k := by
  unfold preds at h
  obtain ⟨e, he, rfl⟩ := List.mem_map.1 h
  obtain ⟨h1, h2⟩ := List.mem_filter.1 he
  exact ⟨e, Array.mem_toList_iff.1 h1, h2, rfl⟩
theorem ancs_good {listed : Array Bool} (hc : Closed ops listed) : ∀ (l : List Oper) (ms : List Nat), l = ops.toList.drop ms.length → (∀ j i, (ms.getD j 0).testBit i = true → listed.getD j false = true → listed.getD i false = true) →
    ∀ j i, ((ancs l ms).getD j 0).testBit i = true → listed.getD j false = true → listed.getD i false = true := by
  intro l
  induction l with
  | nil => intro ms _ h; exact h
  | cons o r ih =>
    intro ms hl h
    refine ih _ ?_ ?_
    · rw [List.length_append, List.length_singleton, ← List.drop_drop, ← hl]; rfl
    · intro j i hb hj
      rw [List.getD_eq_getElem?_getD] at hb
      rcases Nat.lt_trichotomy j ms.length with hlt | rfl | hgt
      · rw [List.getElem?_append_left hlt, ← List.getD_eq_getElem?_getD] at hb
        exact h j i hb hj
      · rw [List.getElem?_append_right (Nat.le_refl _), Nat.sub_self] at hb
        have ho : ops[ms.length]? = some o := by
          have h0 : (ops.toList.drop ms.length)[0]? = some o := by rw [← hl]; rfl
          rw [List.getElem?_drop, Nat.add_zero] at h0
          simpa using h0
        obtain ⟨k, hk, h'⟩ := mem_maskOf (by simpa using hb)
        obtain ⟨e, he, hbe, rfl⟩ := mem_preds hk
        have hkl := hc _ o ho hj e he hbe
        rcases h' with rfl | h'
        · exact hkl
        · exact h _ i h' hkl
      · rw [List.getElem?_append_right (by omega), List.getElem?_eq_none (by simp; omega)] at hb
        simp at hb
theorem not_before {listed : Array Bool} (hc : Closed ops listed) {i j : Nat} (hj : j ∈ Region.ready .any ops listed) (hi : listed.getD i true = false) : before ops (ancs ops.toList []) j i = false := by
  rw [Bool.eq_false_iff]
  intro hb
  obtain ⟨_, o, ho, hall⟩ := mem_ready.1 hj
  unfold before at hb
  rw [ho] at hb
  obtain ⟨k, hk, h'⟩ := mem_maskOf hb
  obtain ⟨e, he, hbe, rfl⟩ := mem_preds hk
  have hkl := hall e he hbe
  have hil : listed.getD i false = true := by
    rcases h' with rfl | h'
    · exact hkl
    · exact ancs_good hc ops.toList [] rfl (fun j i h => by simp at h) e.on i h' hkl
  rcases Nat.lt_or_ge i listed.size with h1 | h1
  · simp [h1] at hi hil; rw [hi] at hil; cases hil
  · simp [Array.getElem?_eq_none h1] at hil
theorem closed_step {listed : Array Bool} (hc : Closed ops listed) {j : Nat} (hj : j ∈ Region.ready .any ops listed) : Closed ops (listed.setIfInBounds j true) := by
  intro k o hk hl e he hb
  by_cases hjk : j = k
  · subst hjk
    obtain ⟨_, o', ho, hall⟩ := mem_ready.1 hj
    rw [hk] at ho
    injection ho with ho
    subst ho
    exact getD_set_true (hall e he hb)
  · rw [getD_set_ne false hjk] at hl
    exact getD_set_true (hc k o hk hl e he hb)
def wpAnyL (P : Program) (ops : Array Oper) (Q : Exit → Act → World → Prop) (S : World → Prop) : Nat → Array Bool → Act → World → Prop
  | 0, listed, a, w => Region.ready .any ops listed = [] ∧ Q .normal a w
  | fuel + 1, listed, a, w =>
    (Region.ready .any ops listed = [] → Q .normal a w) ∧
    ∀ i ∈ Region.ready .any ops listed, wpOp P ops Q i (fun a' w' => (loose ops i = true → S w') ∧ wpAnyL P ops Q S fuel (listed.setIfInBounds i true) a' w') a w
theorem wpAny_of_L : ∀ (fuel : Nat) (listed : Array Bool) (a : Act) (w : World), wpAnyL P ops Q S fuel listed a w → wpAny P .any ops Q fuel listed a w
  | 0, _, _, _, h => h
  | fuel + 1, _, _, _, h => ⟨h.1, fun i hi => wpOp_mono (fun a' w' h' => wpAny_of_L fuel _ a' w' h'.2) (h.2 i hi)⟩
theorem waits_spec {i j : Nat} {oj : Oper} (hj : ops[j]? = some oj) (h : ∀ e ∈ oj.after, Region.binds .any e = true → e.on ≠ i) : waits ops j i = false := by
  unfold waits
  rw [hj]
  rw [Bool.eq_false_iff]
  intro hc
  obtain ⟨e, he, hb⟩ := Array.any_eq_true'.1 hc
  simp only [Bool.and_eq_true, beq_iff_eq] at hb
  exact h e he hb.1 hb.2
theorem ready_unlisted {i : Nat} {listed : Array Bool} (hi : i ∈ Region.ready .any ops listed) : listed.getD i true = false := (mem_ready.1 hi).1
theorem not_waits {i j : Nat} {listed : Array Bool} {oj : Oper} (hj : j ∈ Region.ready .any ops listed) (hoj : ops[j]? = some oj) (hi : listed.getD i true = false) : ∀ e ∈ oj.after, Region.binds .any e = true → e.on ≠ i := by
  obtain ⟨_, o, ho, hall⟩ := mem_ready.1 hj
  rw [hoj] at ho
  injection ho with ho
  subst ho
  intro e he hb heq
  have h1 := hall e he hb
  rw [heq] at h1
  rcases Nat.lt_or_ge i listed.size with h' | h'
  · simp [h'] at hi h1; rw [hi] at h1; cases h1
  · simp [Array.getElem?_eq_none h'] at h1
theorem loose_of {i j : Nat} {listed : Array Bool} (hc : Closed ops listed) (hi : i ∈ Region.ready .any ops listed) (hj : j ∈ Region.ready .any ops listed) (hne : j ≠ i) : loose ops j = true := by
  obtain ⟨hui, oi, hoi, _⟩ := mem_ready.1 hi
  obtain ⟨huj, oj, hoj, _⟩ := mem_ready.1 hj
  have h1 := waits_spec hoj (not_waits hj hoj hui)
  have h2 := waits_spec hoi (not_waits hi hoi huj)
  have h3 := not_before hc hj hui
  have h4 := not_before hc hi huj
  unfold loose
  rw [List.any_eq_true]
  have hlt : i < ops.size := (Array.getElem?_eq_some_iff.1 hoi).1
  refine ⟨i, List.mem_range.2 hlt, ?_⟩
  simp [h1, h2, h3, h4, Ne.symm hne]
theorem wpAnyL_first {i : Nat} {oi : Oper} {v : Value} (hi : ops[i]? = some oi) (hsel : ∀ (j : Nat) (o : Oper) cs b, ops[j]? = some o → o.op ≠ .select cs b)
    (hQ : ∀ c a w, Q (.panic c) (a.put oi.dst v) w → Q (.panic c) a w) :
    ∀ (fuel : Nat) (listed : Array Bool) (a : Act) (w : World),
      (∀ j oj, ops[j]? = some oj → j ≠ i → listed.getD j true = false → (∀ e ∈ oj.after, Region.binds .any e = true → e.on ≠ i) → oi.apart ops oj = true) →
      Closed ops listed → i ∈ Region.ready .any ops listed → YieldsIf P ops S oi v a → S w →
      wpAnyL P ops Q S fuel (listed.setIfInBounds i true) (a.put oi.dst v) w → wpAnyL P ops Q S (fuel + 1) listed a w := by
  intro fuel
  induction fuel with
  | zero =>
    intro listed a w _ _ hr hy hS H
    refine ⟨fun h => (by rw [h] at hr; cases hr), fun j hj => ?_⟩
    by_cases hji : j = i
    · subst hji; exact hy.wpOp hi hS ⟨fun _ => hS, H⟩
    · have := ready_mono hj hji
      rw [H.1] at this
      cases this
  | succ fuel ih =>
    intro listed a w hfree hcl hr hy hS H
    refine ⟨fun h => (by rw [h] at hr; cases hr), fun j hj => ?_⟩
    by_cases hji : j = i
    · subst hji; exact hy.wpOp hi hS ⟨fun _ => hS, H⟩
    · have h1 := H.2 j (ready_mono hj hji)
      obtain ⟨hjun, oj, hoj, hall⟩ := mem_ready.1 hj
      have hnot := not_waits hj hoj (ready_unlisted hr)
      have hloose := loose_of hcl hr hj hji
      have h2 := wpOp_putIf hoj (hfree j oj hoj hji hjun hnot) (fun cs b => hsel i oi cs b hi) (fun cs b => hsel j oj cs b hoj) hQ hy h1
      have hfree' : ∀ k ok, ops[k]? = some ok → k ≠ i → (listed.setIfInBounds j true).getD k true = false →
          (∀ e ∈ ok.after, Region.binds .any e = true → e.on ≠ i) → oi.apart ops ok = true := fun k ok hk hki hun hno => by
        refine hfree k ok hk hki ?_ hno
        by_cases hjk : j = k
        · subst hjk; exact hjun
        · rw [getD_set_ne true hjk] at hun; exact hun
      refine wpOp_mono (fun a' w' h3 => ⟨fun _ => h3.2.1 hloose, ih (listed.setIfInBounds j true) a' w' hfree' (closed_step hcl hj) (ready_mono hr (Ne.symm hji)) h3.1 (h3.2.1 hloose) ?_⟩) h2
      rw [Array.setIfInBounds_comm _ _ hji]
      exact h3.2.2
theorem wp_region_L {id : Nat} {a : Act} {w : World} (hm : P.follows .mixedOrders = true)
    (h : wpAnyL P ops Q S ops.size (Array.replicate ops.size false) a { w with drawn := w.drawn + 1 }) : (Code.region id ops true).wp P Q a w :=
  wp_region_any hm (wpAny_of_L _ _ _ _ h)
end
/-- A region that draws, at work: what has come up so far, slots, chunks, facts; S: chunks and facts at its beginning that loads rely on. -/
def D (c : Cx) (ops : Array Oper) (Q : Exit → Act → World → Prop) (Cs : List Chunk) (Fs : World → Prop) (fuel : Nat) (listed : Array Bool) (tm : Env) (C : List Chunk) (F : World → Prop) : Prop :=
  ∀ a w, Ag c.n a tm → St c w C F → St c w Cs Fs → wpAnyL c.P ops Q (fun w => St c w Cs Fs) fuel listed a w
section
variable {c : Cx} {ops : Array Oper} {Q : Exit → Act → World → Prop} {tm tm' : Env} {C C' Cs Cin Cr : List Chunk} {F F' Fs : World → Prop} {o : Oper} {v vx vy : Value} {x y z : Operand} {t t' e : TypeId} {d i fuel : Nat} {listed : Array Bool}
theorem St.drawn {w : World} {k : Nat} (h : St c w C F) : St c { w with drawn := k } C F := h.grow (Fr.drawn _ _ _)
theorem JC.draw {id : Nat} (hm : c.P.follows .mixedOrders = true) (h : D c ops Q C F ops.size (Array.replicate ops.size false) tm C F) : JC c (.region id ops true) Q tm C F := fun a w ha hs =>
  wp_region_L hm (h a _ ha hs.drawn hs.drawn)
/-- The region begins: loads rely on Cs, Fs. -/
theorem JC.drawS {id : Nat} (Cs : List Chunk) (Fs : World → Prop) (hS : ∀ w, St c w C F → St c w Cs Fs) (hm : c.P.follows .mixedOrders = true) (h : D c ops Q Cs Fs ops.size (Array.replicate ops.size false) tm C F) : JC c (.region id ops true) Q tm C F := fun a w ha hs =>
  wp_region_L hm (h a _ ha hs.drawn (hS _ hs).drawn)
/-- The panics' post doesn't hang on the frame. -/
def PQ (Q : Exit → Act → World → Prop) : Prop := ∀ ch a a' w, a'.defers = a.defers → Q (.panic ch) a w → Q (.panic ch) a' w
theorem PQ.next {K : Act → World → Prop} (h : PQ Q) : PQ (Exit.then K Q) := h
theorem PQ.block {id : Nat} (h : PQ Q) : PQ (Exit.inBlock id Q) := h
theorem PQ.body {P : Program} {fn : Func} {R : Ending → World → Prop} : PQ (bodyPost P fn R) := fun ch a a' w hd h => ⟨by rw [hd]; exact h.1, h.2⟩
theorem rdy {i : Nat} (hr : ((Region.ready .any ops listed).contains i && closedB ops listed) = true) : i ∈ Region.ready .any ops listed := by
  rw [Bool.and_eq_true] at hr
  simpa using hr.1
theorem cls {i : Nat} (hr : ((Region.ready .any ops listed).contains i && closedB ops listed) = true) : Closed ops listed := by
  rw [Bool.and_eq_true] at hr
  exact closed_of hr.2
theorem D.take (i : Nat) (hy : Yl c tm Cs Fs o v) (hi : ops[i]? = some o) (hg : o.guard = none) (hd : o.dst = some d) (hn : Nat.ble (d + 1) c.n = true) (hs : Region.noSelect ops = true) (hf : Region.free .any ops listed i = true) (hr : ((Region.ready .any ops listed).contains i && closedB ops listed) = true)
    (hQ : PQ Q) (h : D c ops Q Cs Fs fuel (listed.setIfInBounds i true) ((d, v) :: tm) C F) : D c ops Q Cs Fs (fuel + 1) listed tm C F := fun a w ha hst hS =>
  wpAnyL_first (S := fun w => St c w Cs Fs) hi (Region.noSelect_spec hs) (fun ch a w hq => hQ ch _ _ w (by cases o.dst <;> rfl) hq) fuel listed a w (Region.free_spec hi hf) (cls hr) (rdy hr) (.inl ⟨by simp [Region.wanted, hg], fun w hw => hy a w ha hw⟩) hS (by
    rw [hd]
    exact h _ w (ha.put (Nat.le_of_ble_eq_true hn) v) hst hS)
theorem D.takeG (i : Nat) {gi g : Nat} {b : Bool} {og : Oper} (hy : Yl c tm Cs Fs o v) (hi : ops[i]? = some o) (hg : o.guard = some (gi, b)) (hgi : ops[gi]? = some og) (hog : og.dst = some g) (hb : lk tm g = some (.bool b)) (hd : o.dst = some d) (hn : Nat.ble (d + 1) c.n = true) (hs : Region.noSelect ops = true) (hf : Region.free .any ops listed i = true) (hr : ((Region.ready .any ops listed).contains i && closedB ops listed) = true)
    (hQ : PQ Q) (h : D c ops Q Cs Fs fuel (listed.setIfInBounds i true) ((d, v) :: tm) C F) : D c ops Q Cs Fs (fuel + 1) listed tm C F := fun a w ha hst hS =>
  wpAnyL_first (S := fun w => St c w Cs Fs) hi (Region.noSelect_spec hs) (fun ch a w hq => hQ ch _ _ w (by cases o.dst <;> rfl) hq) fuel listed a w (Region.free_spec hi hf) (cls hr) (rdy hr) (.inl ⟨by rw [wanted_of ha hg hgi hog hb]; simp, fun w hw => hy a w ha hw⟩) hS (by
    rw [hd]
    exact h _ w (ha.put (Nat.le_of_ble_eq_true hn) v) hst hS)
theorem D.skipG (i : Nat) {gi g : Nat} {b : Bool} {og : Oper} (hi : ops[i]? = some o) (hg : o.guard = some (gi, !b)) (hgi : ops[gi]? = some og) (hog : og.dst = some g) (hb : lk tm g = some (.bool b)) (hd : o.dst = some d) (hn : Nat.ble (d + 1) c.n = true) (hs : Region.noSelect ops = true) (hf : Region.free .any ops listed i = true) (hr : ((Region.ready .any ops listed).contains i && closedB ops listed) = true)
    (hQ : PQ Q) (h : D c ops Q Cs Fs fuel (listed.setIfInBounds i true) ((d, undef) :: tm) C F) : D c ops Q Cs Fs (fuel + 1) listed tm C F := fun a w ha hst hS =>
  wpAnyL_first (S := fun w => St c w Cs Fs) (v := undef) hi (Region.noSelect_spec hs) (fun ch a w hq => hQ ch _ _ w (by cases o.dst <;> rfl) hq) fuel listed a w (Region.free_spec hi hf) (cls hr) (rdy hr) (.inr ⟨by rw [wanted_of ha hg hgi hog hb]; cases b <;> rfl, rfl⟩) hS (by
    rw [hd]
    exact h _ w (ha.put (Nat.le_of_ble_eq_true hn) undef) hst hS)
theorem D.takep (i : Nat) {p : Prop} [Decidable p] (hy : Yl c tm Cs Fs o (.bool (decide p))) (hi : ops[i]? = some o) (hg : o.guard = none) (hd : o.dst = some d) (hn : Nat.ble (d + 1) c.n = true) (hs : Region.noSelect ops = true) (hf : Region.free .any ops listed i = true) (hr : ((Region.ready .any ops listed).contains i && closedB ops listed) = true)
    (hQ : PQ Q) (ht : p → D c ops Q Cs Fs fuel (listed.setIfInBounds i true) ((d, .bool true) :: tm) C F) (hff : ¬ p → D c ops Q Cs Fs fuel (listed.setIfInBounds i true) ((d, .bool false) :: tm) C F) : D c ops Q Cs Fs (fuel + 1) listed tm C F := by
  by_cases h : p
  · exact D.take i (hy.to (by rw [decide_eq_true h])) hi hg hd hn hs hf hr hQ (ht h)
  · exact D.take i (hy.to (by rw [decide_eq_false h])) hi hg hd hn hs hf hr hQ (hff h)
theorem D.taken (i : Nat) {p : Prop} [Decidable p] (hy : Yl c tm Cs Fs o (.bool (!decide p))) (hi : ops[i]? = some o) (hg : o.guard = none) (hd : o.dst = some d) (hn : Nat.ble (d + 1) c.n = true) (hs : Region.noSelect ops = true) (hf : Region.free .any ops listed i = true) (hr : ((Region.ready .any ops listed).contains i && closedB ops listed) = true)
    (hQ : PQ Q) (ht : ¬ p → D c ops Q Cs Fs fuel (listed.setIfInBounds i true) ((d, .bool true) :: tm) C F) (hff : p → D c ops Q Cs Fs fuel (listed.setIfInBounds i true) ((d, .bool false) :: tm) C F) : D c ops Q Cs Fs (fuel + 1) listed tm C F := by
  by_cases h : p
  · exact D.take i (hy.to (by rw [decide_eq_true h]; rfl)) hi hg hd hn hs hf hr hQ (hff h)
  · exact D.take i (hy.to (by rw [decide_eq_false h]; rfl)) hi hg hd hn hs hf hr hQ (ht h)
theorem D.takepG (i : Nat) {gi g : Nat} {b : Bool} {og : Oper} {p : Prop} [Decidable p] (hy : Yl c tm Cs Fs o (.bool (decide p))) (hi : ops[i]? = some o) (hg : o.guard = some (gi, b)) (hgi : ops[gi]? = some og) (hog : og.dst = some g) (hb : lk tm g = some (.bool b)) (hd : o.dst = some d) (hn : Nat.ble (d + 1) c.n = true) (hs : Region.noSelect ops = true) (hf : Region.free .any ops listed i = true) (hr : ((Region.ready .any ops listed).contains i && closedB ops listed) = true)
    (hQ : PQ Q) (ht : p → D c ops Q Cs Fs fuel (listed.setIfInBounds i true) ((d, .bool true) :: tm) C F) (hff : ¬ p → D c ops Q Cs Fs fuel (listed.setIfInBounds i true) ((d, .bool false) :: tm) C F) : D c ops Q Cs Fs (fuel + 1) listed tm C F := by
  by_cases h : p
  · exact D.takeG i (hy.to (by rw [decide_eq_true h])) hi hg hgi hog hb hd hn hs hf hr hQ (ht h)
  · exact D.takeG i (hy.to (by rw [decide_eq_false h])) hi hg hgi hog hb hd hn hs hf hr hQ (hff h)
theorem J.ypG {i g : Nat} {b : Bool} {og : Oper} {l : List Oper} {p : Prop} [Decidable p] (hy : Yl c tm C F o (.bool (decide p))) (hg : o.guard = some (i, b)) (hi : ops[i]? = some og) (hog : og.dst = some g) (hb : lk tm g = some (.bool b)) (hd : o.dst = some d) (hn : Nat.ble (d + 1) c.n = true)
    (ht : p → J c ops Q l ((d, .bool true) :: tm) C F) (hff : ¬ p → J c ops Q l ((d, .bool false) :: tm) C F) : J c ops Q (o :: l) tm C F := by
  by_cases h : p
  · exact J.gyes (hy.to (by rw [decide_eq_true h])) hg hi hog hb hd hn (ht h)
  · exact J.gyes (hy.to (by rw [decide_eq_false h])) hg hi hog hb hd hn (hff h)
theorem J.ynG {i g : Nat} {b : Bool} {og : Oper} {l : List Oper} {p : Prop} [Decidable p] (hy : Yl c tm C F o (.bool (!decide p))) (hg : o.guard = some (i, b)) (hi : ops[i]? = some og) (hog : og.dst = some g) (hb : lk tm g = some (.bool b)) (hd : o.dst = some d) (hn : Nat.ble (d + 1) c.n = true)
    (ht : ¬ p → J c ops Q l ((d, .bool true) :: tm) C F) (hff : p → J c ops Q l ((d, .bool false) :: tm) C F) : J c ops Q (o :: l) tm C F := by
  by_cases h : p
  · exact J.gyes (hy.to (by rw [decide_eq_true h]; rfl)) hg hi hog hb hd hn (hff h)
  · exact J.gyes (hy.to (by rw [decide_eq_false h]; rfl)) hg hi hog hb hd hn (ht h)
theorem JC.drawM {id : Nat} (m : List Bool) (hm : c.P.follows .mixedOrders = true) (h : D c ops Q (maskC m C) F ops.size (Array.replicate ops.size false) tm C F) : JC c (.region id ops true) Q tm C F :=
  JC.drawS _ _ (fun w hs => hs.mask m) hm h
theorem D.done (hr : Region.ready .any ops listed = []) (h : JQ c Q .normal tm C F) : D c ops Q Cs Fs fuel listed tm C F := fun a w ha hst hS => by
  cases fuel with
  | zero => exact ⟨hr, h a w ha hst⟩
  | succ n => exact ⟨fun _ => h a w ha hst, by rw [hr]; simp⟩
/-- The one operation that may come up; it is followed by whatever it leaves. -/
theorem D.ef (i : Nat) (hr : Region.ready .any ops listed = [i]) (hi : ops[i]? = some o) (hg : o.guard = none)
    (h : ∀ a w, Ag c.n a tm → St c w C F → St c w Cs Fs → o.wp c.P a w (fun a' w' => (loose ops i = true → St c w' Cs Fs) ∧ wpAnyL c.P ops Q (fun w => St c w Cs Fs) fuel (listed.setIfInBounds i true) a' w') Q) : D c ops Q Cs Fs (fuel + 1) listed tm C F := fun a w ha hst hS => by
  refine ⟨fun h0 => absurd (hr ▸ h0) (by simp), fun j hj => ?_⟩
  rw [hr] at hj
  have hj' : j = i := by simpa using hj
  subst hj'
  unfold wpOp
  simp only [hi, Region.wanted, hg, if_true]
  exact .inl (h a w ha hst hS)
theorem D.yl (i : Nat) (hr : Region.ready .any ops listed = [i]) (hi : ops[i]? = some o) (hy : Yl c tm C F o v) (hg : o.guard = none) (hd : o.dst = some d) (hn : Nat.ble (d + 1) c.n = true) (h : D c ops Q Cs Fs fuel (listed.setIfInBounds i true) ((d, v) :: tm) C F) : D c ops Q Cs Fs (fuel + 1) listed tm C F :=
  D.ef i hr hi hg fun a w ha hst hS => by
    unfold Oper.wp
    rw [hy a w ha hst, Oper.upon_value, hd]
    exact ⟨fun _ => hS, h _ w (ha.put (Nat.le_of_ble_eq_true hn) v) hst hS⟩
variable {ι : Type} {Φ : ι → Prop} {vi : ι → Value} {C1 : ι → List Chunk} {G : ι → World → Prop}
theorem D.enterR {f : FuncId} {args : List Value} (i : Nat) (hri : Region.ready .any ops listed = [i]) (hi : ops[i]? = some o) (hg : o.guard = none) (hd : o.dst = some d) (hn : Nat.ble (d + 1) c.n = true)
    (hr : ∀ a w, Ag c.n a tm → (execOp a.eval o).run c.P w = .ok (.enter f args.toArray) w) (hs : FnSpec c.P c.Gl f args [] (fun w => F w ∧ ∀ x ∈ C, x.sat w) Φ vi C1 G)
    (h : ∀ i1, Φ i1 → D c ops Q Cs Fs fuel (listed.setIfInBounds i true) ((d, vi i1) :: tm) (C1 i1 ++ C) F) : D c ops Q Cs Fs (fuel + 1) listed tm C F :=
  D.ef i hri hi hg fun a w ha hst hS => by
    unfold Oper.wp
    rw [hr a w ha, Oper.upon_enter]
    refine (hs c.n _ _ w (St.enterR (Cin := []) (Cr := C) c.n hst)).mono ?_
    rintro e w' ⟨i1, hi1, rfl, hfr, hsat, hloc, hnd, hsf⟩
    rw [hd]
    have hS' : St c w' Cs Fs := hS.grow (hfr.mono fun k hk => by obtain ⟨x, hx, _⟩ := hk; cases hx)
    exact ⟨fun _ => hS', h i1 hi1 _ w' (ha.put (Nat.le_of_ble_eq_true hn) _) (St.leaveR (Cin := []) (Cr := C) hst hfr hsat hloc hnd) hS'⟩
theorem D.callR {f : FuncId} {xs : Array Operand} {ats : Array TypeId} {args : List Value} (i : Nat) (hri : Region.ready .any ops listed = [i]) (hi : ops[i]? = some o) (ho : o.op = .call { callee := .value (.func f), args := xs, argTypes := ats }) (hg : o.guard = none) (hd : o.dst = some d) (hn : Nat.ble (d + 1) c.n = true)
    (hf : callable c.P f = true) (hx : evs tm xs.toList = some args) (hs : FnSpec c.P c.Gl f args [] (fun w => F w ∧ ∀ x ∈ C, x.sat w) Φ vi C1 G)
    (h : ∀ i1, Φ i1 → D c ops Q Cs Fs fuel (listed.setIfInBounds i true) ((d, vi i1) :: tm) (C1 i1 ++ C) F) : D c ops Q Cs Fs (fuel + 1) listed tm C F :=
  D.enterR i hri hi hg hd hn (run_call ho hf hx) hs h
theorem D.callcR {f : FuncId} {xs : Array Operand} {ats : Array TypeId} {args caps : List Value} (i : Nat) (hri : Region.ready .any ops listed = [i]) (hi : ops[i]? = some o) (ho : o.op = .call { callee := .value z, args := xs, argTypes := ats }) (hg : o.guard = none) (hd : o.dst = some d) (hn : Nat.ble (d + 1) c.n = true)
    (hz : ev tm z = some (.func (.func f) #[] caps.toArray)) (hf : callable c.P f = true) (hx : evs tm xs.toList = some args) (hs : FnSpec c.P c.Gl f (args ++ caps) [] (fun w => F w ∧ ∀ x ∈ C, x.sat w) Φ vi C1 G)
    (h : ∀ i1, Φ i1 → D c ops Q Cs Fs fuel (listed.setIfInBounds i true) ((d, vi i1) :: tm) (C1 i1 ++ C) F) : D c ops Q Cs Fs (fuel + 1) listed tm C F :=
  D.enterR i hri hi hg hd hn (run_callc ho hz hf hx) hs h
theorem D.weakF (h : D c ops Q Cs Fs fuel listed tm C' F') (hs : ∀ w, St c w C F → St c w C' F') : D c ops Q Cs Fs fuel listed tm C F := fun a w ha hst hS => h a w ha (hs w hst) hS
theorem D.callv {f : FuncId} {xs : Array Operand} {ats : Array TypeId} {args : List Value} (i : Nat) (hri : Region.ready .any ops listed = [i]) (hi : ops[i]? = some o) (ho : o.op = .call { callee := .value (.func f), args := xs, argTypes := ats }) (hg : o.guard = none) (hd : o.dst = some d) (hn : Nat.ble (d + 1) c.n = true)
    (hf : callable c.P f = true) (hx : evs tm xs.toList = some args) (hs : PureFn c.P c.Gl f args (fun w => F w ∧ ∀ x ∈ C, x.sat w) v) (h : D c ops Q Cs Fs fuel (listed.setIfInBounds i true) ((d, v) :: tm) C F) : D c ops Q Cs Fs (fuel + 1) listed tm C F :=
  D.callR i hri hi ho hg hd hn hf hx hs fun _ _ => h
theorem D.callcv {f : FuncId} {xs : Array Operand} {ats : Array TypeId} {args caps : List Value} (i : Nat) (hri : Region.ready .any ops listed = [i]) (hi : ops[i]? = some o) (ho : o.op = .call { callee := .value z, args := xs, argTypes := ats }) (hg : o.guard = none) (hd : o.dst = some d) (hn : Nat.ble (d + 1) c.n = true)
    (hz : ev tm z = some (.func (.func f) #[] caps.toArray)) (hf : callable c.P f = true) (hx : evs tm xs.toList = some args) (hs : PureFn c.P c.Gl f (args ++ caps) (fun w => F w ∧ ∀ x ∈ C, x.sat w) v) (h : D c ops Q Cs Fs fuel (listed.setIfInBounds i true) ((d, v) :: tm) C F) : D c ops Q Cs Fs (fuel + 1) listed tm C F :=
  D.callcR i hri hi ho hg hd hn hz hf hx hs fun _ _ => h
theorem wp_then {P : Program} {Q : Exit → Act → World → Prop} {o : Oper} {a : Act} {w : World} {K : Act → World → Prop} (h : o.wp P a w (wpList P ops (Exit.then K Q) []) (Exit.then K Q)) : o.wp P a w K Q := by
  unfold Oper.wp at *
  generalize (execOp a.eval o).run P w = r at *
  cases r
  · rename_i n w'
    cases n <;> exact h
  all_goals exact h
/-- A region that draws, of which each operation waits for the last one from now on. -/
def D0 (c : Cx) (ops : Array Oper) (Q : Exit → Act → World → Prop) (Cs : List Chunk) (Fs : World → Prop) (fuel : Nat) (listed : Array Bool) (tm : Env) (C : List Chunk) (F : World → Prop) : Prop :=
  ∀ a w, Ag c.n a tm → St c w C F → wpAnyL c.P ops Q (fun w => St c w Cs Fs) fuel listed a w
theorem D.of0 (h : D0 c ops Q Cs Fs fuel listed tm C F) : D c ops Q Cs Fs fuel listed tm C F := fun a w ha hst _ => h a w ha hst
theorem D0.ofJ (i : Nat) (hri : Region.ready .any ops listed = [i]) (hi : ops[i]? = some o) (hl : loose ops i = false)
    (h : ∀ K : Act → World → Prop, (∀ tm' C' F', D0 c ops Q Cs Fs fuel (listed.setIfInBounds i true) tm' C' F' → JQ c (Exit.then K Q) .normal tm' C' F') → J c ops (Exit.then K Q) [o] tm C F) : D0 c ops Q Cs Fs (fuel + 1) listed tm C F := fun a w ha hst => by
  refine ⟨fun h0 => absurd (hri ▸ h0) (by simp), fun j hj => ?_⟩
  rw [hri] at hj
  have hj' : j = i := by simpa using hj
  subst hj'
  have h1 := h (fun a' w' => (loose ops j = true → St c w' Cs Fs) ∧ wpAnyL c.P ops Q (fun w => St c w Cs Fs) fuel (listed.setIfInBounds j true) a' w') (fun tm' C' F' hD a' w' ha' hst' => ⟨fun hlo => (by rw [hl] at hlo; cases hlo), hD a' w' ha' hst'⟩) a w ha hst
  unfold wpList at h1
  unfold wpOp
  rw [hi]
  by_cases hw : Region.wanted o (yielded ops a.tmps) = true
  · simp only [hw, if_true] at h1 ⊢
    rcases h1 with h1 | h1
    · refine .inl ?_
      exact wp_then h1
    · exact .inr ⟨h1.1, h1.2⟩
  · simp only [hw] at h1 ⊢
    exact h1
theorem D0.done (hr : Region.ready .any ops listed = []) (h : JQ c Q .normal tm C F) : D0 c ops Q Cs Fs fuel listed tm C F := fun a w ha hst => by
  cases fuel with
  | zero => exact ⟨hr, h a w ha hst⟩
  | succ n => exact ⟨fun _ => h a w ha hst, by rw [hr]; simp⟩
theorem D.ofJ0 (i : Nat) (hri : Region.ready .any ops listed = [i]) (hi : ops[i]? = some o) (hl : loose ops i = false)
    (h : ∀ K : Act → World → Prop, (∀ tm' C' F', D0 c ops Q Cs Fs fuel (listed.setIfInBounds i true) tm' C' F' → JQ c (Exit.then K Q) .normal tm' C' F') → J c ops (Exit.then K Q) [o] tm C F) : D c ops Q Cs Fs (fuel + 1) listed tm C F := D.of0 (D0.ofJ i hri hi hl h)
/-- What is to be shown where operation i comes up. -/
def DS (c : Cx) (ops : Array Oper) (Q : Exit → Act → World → Prop) (Cs : List Chunk) (Fs : World → Prop) (fuel : Nat) (listed : Array Bool) (tm : Env) (C : List Chunk) (F : World → Prop) (i : Nat) : Prop :=
  ∀ a w, Ag c.n a tm → St c w C F → St c w Cs Fs → wpOp c.P ops Q i (fun a' w' => (loose ops i = true → St c w' Cs Fs) ∧ wpAnyL c.P ops Q (fun w => St c w Cs Fs) fuel (listed.setIfInBounds i true) a' w') a w
theorem D.one (i : Nat) (hri : Region.ready .any ops listed = [i]) (h : DS c ops Q Cs Fs fuel listed tm C F i) : D c ops Q Cs Fs (fuel + 1) listed tm C F := fun a w ha hst hS => by
  refine ⟨fun h0 => absurd (hri ▸ h0) (by simp), fun j hj => ?_⟩
  rw [hri] at hj
  have hj' : j = i := by simpa using hj
  subst hj'
  exact h a w ha hst hS
theorem D.two (i k : Nat) (hri : Region.ready .any ops listed = [i, k]) (h : DS c ops Q Cs Fs fuel listed tm C F i) (h' : DS c ops Q Cs Fs fuel listed tm C F k) : D c ops Q Cs Fs (fuel + 1) listed tm C F := fun a w ha hst hS => by
  refine ⟨fun h0 => absurd (hri ▸ h0) (by simp), fun j hj => ?_⟩
  rw [hri] at hj
  have hj' : j = i ∨ j = k := by simpa using hj
  rcases hj' with rfl | rfl
  · exact h a w ha hst hS
  · exact h' a w ha hst hS
theorem DS.ofJ {i : Nat} (hi : ops[i]? = some o)
    (h : ∀ K : Act → World → Prop, (∀ tm' C' F', (∀ w, St c w C' F' → St c w Cs Fs) → D c ops Q Cs Fs fuel (listed.setIfInBounds i true) tm' C' F' → JQ c (Exit.then K Q) .normal tm' C' F') → J c ops (Exit.then K Q) [o] tm C F) : DS c ops Q Cs Fs fuel listed tm C F i := fun a w ha hst hS => by
  have h1 := h (fun a' w' => (loose ops i = true → St c w' Cs Fs) ∧ wpAnyL c.P ops Q (fun w => St c w Cs Fs) fuel (listed.setIfInBounds i true) a' w') (fun tm' C' F' hs hD a' w' ha' hst' => ⟨fun _ => hs w' hst', hD a' w' ha' hst' (hs w' hst')⟩) a w ha hst
  unfold wpList at h1
  unfold wpOp
  rw [hi]
  by_cases hw : Region.wanted o (yielded ops a.tmps) = true
  · simp only [hw, if_true] at h1 ⊢
    rcases h1 with h1 | h1
    · exact .inl (wp_then h1)
    · exact .inr ⟨h1.1, h1.2⟩
  · simp only [hw] at h1 ⊢
    exact h1
/-- The one operation that may come up, by a law for lists; the rest relies on Cs still. -/
theorem D.ofJ (i : Nat) (hri : Region.ready .any ops listed = [i]) (hi : ops[i]? = some o)
    (h : ∀ K : Act → World → Prop, (∀ tm' C' F', (∀ w, St c w C' F' → St c w Cs Fs) → D c ops Q Cs Fs fuel (listed.setIfInBounds i true) tm' C' F' → JQ c (Exit.then K Q) .normal tm' C' F') → J c ops (Exit.then K Q) [o] tm C F) : D c ops Q Cs Fs (fuel + 1) listed tm C F :=
  D.one i hri (DS.ofJ hi h)
/-- A last store. -/
theorem D.store {g off : Nat} {tt : TypeId} {cs vs cs' : List Value} (i : Nat) (ic : Nat) (hri : Region.ready .any ops listed = [i]) (hi : ops[i]? = some o) (hl' : loose ops i = false) (hlast : Region.ready .any ops (listed.setIfInBounds i true) = []) (ho : o.op = .store t x y) (hg : o.guard = none) (hd : o.dst = none) (hx : ev tm x = some (.pointer (some ⟨g, off, none⟩))) (hy : ev tm y = some v) (hC : C[ic]? = some (.box g tt cs))
    (hv : v.cells = vs.toArray) (hz : szO c.P t = some vs.length) (hl : off + vs.length ≤ cs.length) (h1 : ∀ u ∈ vs, u.oneCell' = true) (hcs : spl cs off vs = cs')
    (h : JQ c Q .normal tm (C.set ic (.box g tt cs')) F) : D c ops Q Cs Fs (fuel + 1) listed tm C F :=
  D.ef i hri hi hg fun a w ha hs hS => by
    have hsat := hs.get hC
    have hh : w.heap[g]? = some (.cells cs.toArray tt (0, 0)) := hsat
    have hrun : (execOp a.eval o).run c.P w = .ok .skip (w.setRow g cs'.toArray) := by
      rw [← hcs]
      simp only [execOp, ho, ha.ev hx, ha.ev hy, Instr.storeAt, Instr.sureAddr, Sem.run_bind, Sem.run_pure, Result.andThen_ok, run_storeB hz hv hsat hl h1]
    unfold Oper.wp
    rw [hrun, Oper.upon_skip, hd]
    refine ⟨fun hlo => (by rw [hl'] at hlo; cases hlo), ?_⟩
    have hst := hs.upd hC (y := .box g tt cs') (Fr.setRow w g _) (setRow_heap w g _ _ tt _ hh) (fun k hk => .inl hk)
    cases fuel with
    | zero => exact ⟨hlast, h a _ ha hst⟩
    | succ n => exact ⟨fun _ => h a _ ha hst, by rw [hlast]; simp⟩
/-- A whole block is stored anew. -/
theorem spl_whole {cs vs : List Value} (h : vs.length = cs.length) : spl cs 0 vs = vs := by
  simp [spl, h]
theorem spl_one {cs : List Value} {off : Nat} (h : off < cs.length) : spl cs off [v] = cs.set off v := by
  simp only [spl, List.length_singleton, List.append_assoc, List.singleton_append]
  rw [List.set_eq_take_append_cons_drop, if_pos h]
theorem D.storeW {g n : Nat} {tt : TypeId} {cs vs : List Value} (i ic : Nat) (hri : Region.ready .any ops listed = [i]) (hi : ops[i]? = some o) (hl' : loose ops i = false) (hlast : Region.ready .any ops (listed.setIfInBounds i true) = []) (ho : o.op = .store t x y) (hg : o.guard = none) (hd : o.dst = none) (hx : ev tm x = some (.pointer (some ⟨g, 0, none⟩))) (hy : ev tm y = some v) (hC : C[ic]? = some (.box g tt cs))
    (hv : v.cells = vs.toArray) (hz : szO c.P t = some n) (hn : vs.length = n) (hm : cs.length = n) (h1 : ∀ u ∈ vs, u.oneCell' = true)
    (h : JQ c Q .normal tm (C.set ic (.box g tt vs)) F) : D c ops Q Cs Fs (fuel + 1) listed tm C F :=
  D.store i ic hri hi hl' hlast ho hg hd hx hy hC hv (by rw [hz, hn]) (by omega) h1 (spl_whole (by omega)) h
theorem D.store1 {g off : Nat} {tt : TypeId} {cs : List Value} (i ic : Nat) (hri : Region.ready .any ops listed = [i]) (hi : ops[i]? = some o) (hl' : loose ops i = false) (hlast : Region.ready .any ops (listed.setIfInBounds i true) = []) (ho : o.op = .store t x y) (hg : o.guard = none) (hd : o.dst = none) (hx : ev tm x = some (.pointer (some ⟨g, off, none⟩))) (hy : ev tm y = some v) (hC : C[ic]? = some (.box g tt cs))
    (hv : v.cells = #[v]) (hz : szO c.P t = some 1) (hm : off < cs.length) (h1 : v.oneCell' = true)
    (h : JQ c Q .normal tm (C.set ic (.box g tt (cs.set off v))) F) : D c ops Q Cs Fs (fuel + 1) listed tm C F :=
  D.store i ic hri hi hl' hlast ho hg hd hx hy hC (vs := [v]) hv hz (by simp; omega) (by simpa using h1) (spl_one hm) h
variable {l : List Oper}
theorem J.storeW {g n : Nat} {tt : TypeId} {cs vs : List Value} (ic : Nat) (ho : o.op = .store t x y) (hg : o.guard = none) (hd : o.dst = none) (hx : ev tm x = some (.pointer (some ⟨g, 0, none⟩))) (hy : ev tm y = some v) (hC : C[ic]? = some (.box g tt cs))
    (hv : v.cells = vs.toArray) (hz : szO c.P t = some n) (hn : vs.length = n) (hm : cs.length = n) (h1 : ∀ u ∈ vs, u.oneCell' = true)
    (h : J c ops Q l tm (C.set ic (.box g tt vs)) F) : J c ops Q (o :: l) tm C F :=
  J.store ic ho hg hd hx hy hC hv (by rw [hz, hn]) (by omega) h1 (spl_whole (by omega)) h
theorem J.store1 {g off : Nat} {tt : TypeId} {cs : List Value} (ic : Nat) (ho : o.op = .store t x y) (hg : o.guard = none) (hd : o.dst = none) (hx : ev tm x = some (.pointer (some ⟨g, off, none⟩))) (hy : ev tm y = some v) (hC : C[ic]? = some (.box g tt cs))
    (hv : v.cells = #[v]) (hz : szO c.P t = some 1) (hm : off < cs.length) (h1 : v.oneCell' = true)
    (h : J c ops Q l tm (C.set ic (.box g tt (cs.set off v))) F) : J c ops Q (o :: l) tm C F :=
  J.store ic ho hg hd hx hy hC (vs := [v]) hv hz (by simp; omega) (by simpa using h1) (spl_one hm) h
/-- A whole block is read. -/
theorem y_lbW {g n : Nat} {tt : TypeId} {cs : List Value} (i : Nat) (ho : o.op = .load t x) (hg : aggO c.P t = some true) (hz : szO c.P t = some n) (hn : cs.length = n) (hx : ev tm x = some (.pointer (some ⟨g, 0, none⟩))) (hC : C[i]? = some (.box g tt cs)) : Yl c tm C F o (.agg cs.toArray) :=
  y_lbA i ho hg (by rw [hz, hn]) hx hC (by simp)
/-! ### loops, by the slots that turn -/
def okE (tm : Env) : Env → Prop
  | [] => True
  | p :: r => lk tm p.1 = some p.2 ∧ okE tm r
def okK (tm tm0 : Env) : List Nat → Prop
  | [] => True
  | i :: r => lk tm i = lk tm0 i ∧ okK tm tm0 r
theorem okE_nil {tm : Env} : okE tm [] := trivial
theorem okE_cons {tm r : Env} {k : Nat} {v : Value} (h : lk tm k = some v) (hr : okE tm r) : okE tm ((k, v) :: r) := ⟨h, hr⟩
theorem okK_nil {tm tm0 : Env} : okK tm tm0 [] := trivial
theorem okK_cons {tm tm0 : Env} {i : Nat} {r : List Nat} (h : lk tm i = lk tm0 i) (hr : okK tm tm0 r) : okK tm tm0 (i :: r) := ⟨h, hr⟩
theorem okK_cons2 {tm tm0 : Env} {i : Nat} {r : List Nat} {v : Value} (h : lk tm i = some v) (h0 : lk tm0 i = some v) (hr : okK tm tm0 r) : okK tm tm0 (i :: r) := ⟨h.trans h0.symm, hr⟩
theorem okE_lk {tm M : Env} (h : okE tm M) : ∀ i v, lk M i = some v → lk tm i = some v := by
  induction M with
  | nil => intro i v h; cases h
  | cons p r ih =>
    obtain ⟨k, u⟩ := p
    intro i v hi
    rw [lk_cons] at hi
    by_cases e : k = i
    · rw [if_pos e] at hi; injection hi with hi; subst e; subst hi; exact h.1
    · rw [if_neg e] at hi; exact ih h.2 i v hi
theorem okK_lk {tm tm0 : Env} {ks : List Nat} (h : okK tm tm0 ks) : ∀ i v, lk (keep tm0 ks) i = some v → lk tm i = some v := by
  induction ks with
  | nil => intro i v h; cases h
  | cons j r ih =>
    intro i v hi
    rw [keep] at hi
    split at hi
    · rename_i u hu
      rw [lk_cons] at hi
      by_cases e : j = i
      · rw [if_pos e] at hi; injection hi with hi; subst e; subst hi; exact h.1.trans hu
      · rw [if_neg e] at hi; exact ih h.2 i v hi
    · exact ih h.2 i v hi
theorem okEK {tm tm0 M : Env} {ks : List Nat} (hM : okE tm M) (hK : okK tm tm0 ks) : ∀ i v, lk (M ++ keep tm0 ks) i = some v → lk tm i = some v := by
  intro i v hi
  rw [lk_append] at hi
  cases hm : lk M i with
  | some u => rw [hm] at hi; injection hi with hi; subst hi; exact okE_lk hM i _ hm
  | none => rw [hm] at hi; exact okK_lk hK i v hi
theorem okK_self (tm : Env) (ks : List Nat) : okK tm tm ks := by
  induction ks with
  | nil => trivial
  | cons j r ih => exact ⟨rfl, ih⟩
theorem JC.loopk {σ : Type} (M : σ → Env) (ks : List Nat) (Dc : σ → List Chunk) (H : σ → World → Prop) (Ψ : σ → Prop) (μ : σ → Nat) {body : Code} (s0 : σ) (h0 : Ψ s0) (hM : okE tm (M s0)) (hs : ∀ w, St c w C F → St c w (Dc s0) (H s0))
    (h : ∀ s, Ψ s → ∀ K : Act → World → Prop, (∀ s' tm', Ψ s' → μ s' < μ s → okE tm' (M s') → okK tm' tm ks → JQ c (Exit.then K Q) .normal tm' (Dc s') (H s')) → JC c body (Exit.then K Q) (M s ++ keep tm ks) (Dc s) (H s)) : JC c (.loop body) Q tm C F :=
  JC.loop (fun s => M s ++ keep tm ks) Dc H Ψ μ s0 h0 (okEK hM (okK_self tm ks)) hs fun s hΨ K hK =>
    h s hΨ K fun s' tm' h1 h2 h3 h4 a w ha hst => hK s' h1 h2 a w (ha.sub (okEK h3 h4)) hst
/-- A piece of code that ends in one of some states: the rest is shown once. -/
theorem JC.cut {σ : Type} (M : σ → Env) (ks : List Nat) (Dc : σ → List Chunk) (H : σ → World → Prop) (Ψ : σ → Prop) {x : Code}
    (h1 : ∀ K : Act → World → Prop, (∀ s tm', Ψ s → okE tm' (M s) → okK tm' tm ks → JQ c (Exit.then K Q) .normal tm' (Dc s) (H s)) → JC c x (Exit.then K Q) tm C F) (h2 : ∀ s, Ψ s → JQ c Q .normal (M s ++ keep tm ks) (Dc s) (H s)) : JC c x Q tm C F := fun a w ha hst => by
  refine Code.wp_mono (Q := Exit.then (fun a w => ∃ s, Ψ s ∧ Ag c.n a (M s ++ keep tm ks) ∧ St c w (Dc s) (H s)) Q) (fun e a' w' hq => ?_) (h1 (fun a w => ∃ s, Ψ s ∧ Ag c.n a (M s ++ keep tm ks) ∧ St c w (Dc s) (H s)) (fun s tm' hs hM hK a' w' ha' hst' => ⟨s, hs, ha'.sub (okEK hM hK), hst'⟩) a w ha hst)
  cases e with
  | normal =>
    obtain ⟨s, hs, ha', hst'⟩ := hq
    exact h2 s hs a' w' ha' hst'
  | exit id => exact hq
  | goto l => exact hq
  | ret => exact hq
  | panic ch => exact hq
  | outgrown => exact hq
theorem okE_append {tm A B : Env} (hA : okE tm A) (hB : okE tm B) : okE tm (A ++ B) := by
  induction A with
  | nil => exact hB
  | cons x r ih => exact ⟨hA.1, ih hA.2⟩
/-- A loop: slots that turn (M), slots that stay (kp). -/
theorem JC.loopE {σ : Type} (M : σ → Env) (kp : Env) (hkp : okE tm kp) (Dc : σ → List Chunk) (H : σ → World → Prop) (Ψ : σ → Prop) (μ : σ → Nat) {body : Code} (s0 : σ) (h0 : Ψ s0) (hM : okE tm (M s0)) (hs : ∀ w, St c w C F → St c w (Dc s0) (H s0))
    (h : ∀ s, Ψ s → ∀ K : Act → World → Prop, (∀ s' tm', Ψ s' → μ s' < μ s → okE tm' (M s') → okE tm' kp → JQ c (Exit.then K Q) .normal tm' (Dc s') (H s')) → JC c body (Exit.then K Q) (M s ++ kp) (Dc s) (H s)) : JC c (.loop body) Q tm C F :=
  JC.loop (fun s => M s ++ kp) Dc H Ψ μ s0 h0 (okE_lk (okE_append hM hkp)) hs fun s hΨ K hK =>
    h s hΨ K fun s' tm' h1 h2 h3 h4 a w ha hst => hK s' h1 h2 a w (ha.sub (okE_lk (okE_append h3 h4))) hst
/-- A piece of code that ends in one of some states: the rest is shown once. -/
theorem JC.cutE {σ : Type} (M : σ → Env) (kp : Env) (hkp : okE tm kp) (Dc : σ → List Chunk) (H : σ → World → Prop) (Ψ : σ → Prop) {x : Code}
    (h1 : ∀ K : Act → World → Prop, (∀ s tm', Ψ s → okE tm' (M s) → okE tm' kp → JQ c (Exit.then K Q) .normal tm' (Dc s) (H s)) → JC c x (Exit.then K Q) tm C F) (h2 : ∀ s, Ψ s → JQ c Q .normal (M s ++ kp) (Dc s) (H s)) : JC c x Q tm C F := fun a w ha hst => by
  refine Code.wp_mono (Q := Exit.then (fun a w => ∃ s, Ψ s ∧ Ag c.n a (M s ++ kp) ∧ St c w (Dc s) (H s)) Q) (fun e a' w' hq => ?_) (h1 (fun a w => ∃ s, Ψ s ∧ Ag c.n a (M s ++ kp) ∧ St c w (Dc s) (H s)) (fun s tm' hs hM hK a' w' ha' hst' => ⟨s, hs, ha'.sub (okE_lk (okE_append hM hK)), hst'⟩) a w ha hst)
  cases e with
  | normal =>
    obtain ⟨s, hs, ha', hst'⟩ := hq
    exact h2 s hs a' w' ha' hst'
  | exit id => exact hq
  | goto l => exact hq
  | ret => exact hq
  | panic ch => exact hq
  | outgrown => exact hq
end
end Go.Sx
