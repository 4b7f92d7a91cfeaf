/- Speculum proofs: chunks put in order; boxes that are rows. -/
import Derived.Test.YtjkfeonbioccmaaDoorPg
namespace Go.Sx
open Go Go.RowKit
set_option linter.unusedVariables false
set_option linter.unusedSimpArgs false
section
variable {c : Cx} {ops : Array Oper} {Q : Exit → Act → World → Prop} {tm tm' : Env} {C C' : List Chunk} {F F' : World → Prop} {l : List Oper} {o : Oper} {v v' vx vy : Value} {x y z : Operand} {t t' e : TypeId} {d : Nat} {w : World}
theorem St.recast (h : St c w C F) {i : Nat} {x y : Chunk} (hi : C[i]? = some x) (ho : y.own = x.own) (hs : x.sat w → y.sat w) : St c w (C.set i y) F :=
  h.upd hi (Fr.refl _ _) (hs (h.get hi)) (fun k hk => .inl (ho ▸ hk))
theorem row_of_box {g n sz : Nat} {cs : List Value} (hl : cs.length = n * sz) (hn : n ≤ maxLen) (h : (Chunk.box g e cs).sat w) : (Chunk.row (.slice (some ⟨g, 0, none⟩) n n) e sz n cs).sat w := by
  have hh : w.heap[g]? = some (.cells cs.toArray e (0, 0)) := h
  exact ⟨hl, .inr ⟨g, n, cs.toArray, rfl, Nat.zero_le _, hh, Nat.le_refl _, hn, by simpa using hl, by simp [← hl]⟩⟩
theorem St.boxrow (h : St c w C F) (i : Nat) {g n sz : Nat} {cs : List Value} (hi : C[i]? = some (.box g e cs)) (hl : cs.length = n * sz) (hn : n ≤ 4000000000000) : St c w (C.set i (.row (.slice (some ⟨g, 0, none⟩) n n) e sz n cs)) F :=
  h.recast hi rfl (row_of_box hl (by unfold maxLen; omega))
theorem perm_front : ∀ (C : List Chunk) (i : Nat) (x : Chunk), C[i]? = some x → (x :: C.eraseIdx i).Perm C := by
  intro C
  induction C with
  | nil => intro i x h; cases h
  | cons y r ih =>
    intro i x h
    cases i with
    | zero =>
      simp only [List.getElem?_cons_zero, Option.some.injEq] at h
      subst h
      exact List.Perm.refl _
    | succ i =>
      simp only [List.getElem?_cons_succ] at h
      exact (List.Perm.swap y x _).trans ((ih i x h).cons y)
theorem St.front (h : St c w C F) (i : Nat) {x : Chunk} (hi : C[i]? = some x) : St c w (x :: C.eraseIdx i) F := by
  exact h.perm (perm_front C i x hi)
theorem J.front (i : Nat) {x : Chunk} (hi : C[i]? = some x) (h : J c ops Q l tm (x :: C.eraseIdx i) F) : J c ops Q l tm C F := J.st h fun w hs => hs.front i hi
theorem JC.front {y : Code} (i : Nat) {x : Chunk} (hi : C[i]? = some x) (h : JC c y Q tm (x :: C.eraseIdx i) F) : JC c y Q tm C F := JC.st h fun w hs => hs.front i hi
theorem JQ.front {e : Exit} (i : Nat) {x : Chunk} (hi : C[i]? = some x) (h : JQ c Q e tm (x :: C.eraseIdx i) F) : JQ c Q e tm C F := JQ.st h fun w hs => hs.front i hi
/-- []T{x, y, ..} -/
theorem fill_each {α : Type} {sz : Nat} (fv : α → Value) (fc : α → List Value) (hv : ∀ x, (fv x).cells = (fc x).toArray) (hl : ∀ x, (fc x).length = sz) : ∀ (xs : List α) (k : Nat) (pre post : List Value), post.length = xs.length * sz → pre.length = k * sz →
    Instr.fill (fun i => some (i * sz, sz)) (pre ++ post).toArray (((xs.map fv).zipIdx k).map fun p => (p.2, p.1)) = some (pre ++ xs.flatMap fc).toArray := by
  intro xs
  induction xs with
  | nil =>
    intro k pre post hp _
    have : post = [] := List.eq_nil_of_length_eq_zero (by simpa using hp)
    subst this
    simp [Instr.fill]
  | cons x r ih =>
    intro k pre post hp hk
    rw [List.length_cons, Nat.succ_mul] at hp
    rw [List.map_cons, List.zipIdx_cons, List.map_cons]
    rw [fill_one (vs := fc x) (off := k * sz) (by simp [hl]) (hv x) (by simp [hl]; omega)]
    have hs : spl (pre ++ post) (k * sz) (fc x) = (pre ++ fc x) ++ post.drop sz := by
      simp only [spl, hl]
      rw [List.take_append_of_le_length (by omega), List.take_of_length_le (by omega), List.drop_append, List.drop_of_length_le (by omega), hk, show k * sz + sz - k * sz = sz by omega]
      simp
    rw [hs, ih (k + 1) (pre ++ fc x) (post.drop sz) (by rw [List.length_drop]; omega) (by rw [List.length_append, hl, hk, Nat.succ_mul])]
    simp
theorem J.bsN {α : Type} {n sz : Nat} {zv : Value} {cs : List Value} {parts : Array (Nat × Operand)} (xs : List α) (fv : α → Value) (fc : α → List Value) (hfv : ∀ x, (fv x).cells = (fc x).toArray) (hfl : ∀ x, (fc x).length = sz) (ho : o.op = .buildSlice t n parts) (hg : o.guard = none) (hd : o.dst = some d) (hn : Nat.ble (d + 1) c.n = true)
    (hp : evp tm parts.toList = some (((xs.map fv).zipIdx 0).map fun p => (p.2, p.1))) (hxs : xs.length = n) (ht : c.P.underlying t = some (.slice e)) (hz : zO c.P e = some zv) (hs : szO c.P e = some sz) (h0 : (Nat.ble 1 sz && Nat.ble 1 n && Nat.ble (n * sz) 10000) = true) (he : xs.flatMap fc = cs)
    (h : ∀ g, J c ops Q l ((d, .slice (some ⟨g, 0, none⟩) n n) :: tm) (.row (.slice (some ⟨g, 0, none⟩) n n) e sz n cs :: C) F) : J c ops Q (o :: l) tm C F := by
  rw [Bool.and_eq_true, Bool.and_eq_true] at h0
  have h0 := And.intro (Nat.le_of_ble_eq_true h0.1.1) (And.intro (Nat.le_of_ble_eq_true h0.1.2) (Nat.le_of_ble_eq_true h0.2))
  subst he
  have hlen : (xs.flatMap fc).length = n * sz := by
    rw [List.length_flatMap, ← hxs]
    clear hp hxs h h0
    induction xs with
    | nil => simp
    | cons x r ih => simp [hfl, Nat.succ_mul] at ih ⊢; omega
  refine J.ef (S' := True) hg hd hn fun ac w hag hst => ⟨.slice (some ⟨w.heap.size, 0, none⟩) n n, w.alloc (.cells (xs.flatMap fc).toArray e), ?_,
    _, _, hst.push (Fr.alloc _ _ _) (row_of_box hlen (by unfold maxLen; have : n * 1 ≤ n * sz := Nat.mul_le_mul_left _ h0.1; omega) (box_new w e _)) (fun k hk => by simp only [Chunk.own, Value.ownBlock, Option.some.injEq] at hk; omega), h _⟩
  have hpa := hag.evp hp
  have hfill := fill_each (sz := sz) fv fc hfv hfl xs 0 [] ((Array.range (n * sz)).map (zv.cells[· % zv.cells.size]!)).toList (by simp [hxs]) (by simp)
  simp only [List.nil_append, Array.toArray_toList] at hfill
  have hsz1 : ¬ (n * sz > 2 ^ 24) := by omega
  have hsz2 : ¬ (n * sz = 0) := by
    have := Nat.mul_pos h0.2.1 h0.1
    omega
  have hparts : (parts.map fun (i, x) => (i, ac.eval x)).toList = ((xs.map fv).zipIdx 0).map fun p => (p.2, p.1) := by
    rw [Array.toList_map]; exact hpa
  simp only [execOp, ho, Instr.buildSlice, Sem.run_bind, run_underlying ht, Result.andThen_ok, run_szO hs]
  rw [if_neg hsz1, if_neg hsz2]
  simp only [Sem.run_bind, Sem.run_pure, run_zO hz, Result.andThen_ok, hparts, hfill]
  rfl
theorem hv_cells (x : H) : (hv x).cells = (hc x).toArray := rfl
/-- append([]T(nil), s...) -/
theorem J.appNil {m kc sz by' : Nat} {B : Option Addr} {zv : Value} (news : List Value) (ho : o.op = .call { callee := .builtin .append, args := #[x, y], argTypes := #[t, t] }) (hg : o.guard = none) (hd : o.dst = some d) (hn : Nat.ble (d + 1) c.n = true)
    (hx : ev tm x = some (.slice none 0 0)) (hy : ev tm y = some (.slice B m kc)) (ht : c.P.underlying t = some (.slice e)) (hz : zO c.P e = some zv) (hs : szO c.P e = some sz) (hb : byO c.P e = some by') (hzs : zv.cells.size = sz) (h0 : 0 < sz)
    (hl : news.length = m * sz) (hsl : ∀ w, St c w C F → Sl w B news) (h1 : ∀ u ∈ news, u.oneCell' = true) (hm : m ≤ 4000000000000) (hby : by' ≤ 35)
    (h : ∀ A k, m ≤ k → J c ops Q l ((d, .slice A m k) :: tm) (.row (.slice A m k) e sz m news :: C) F) : J c ops Q (o :: l) tm C F := by
  refine J.st ?_ (fun w hs => hs.nilrow e sz)
  exact J.append 0 ho hg hd hn hx hy ht hz hs hb hzs h0 rfl hl (fun w hs => hsl w (hs.forget (List.sublist_cons_self _ _))) h1 (by omega) hby (by omega) (List.nil_append _) fun A k _ hk => h A k hk
theorem D.front {ops : Array Oper} {Cs : List Chunk} {Fs : World → Prop} {fuel : Nat} {listed : Array Bool} (i : Nat) {x : Chunk} (hi : C[i]? = some x) (h : D c ops Q Cs Fs fuel listed tm (x :: C.eraseIdx i) F) : D c ops Q Cs Fs fuel listed tm C F := D.weakF h fun w hs => hs.front i hi
theorem JQ.keepn {e : Exit} (n : Nat) (h : JQ c Q e tm (C.take n) F) : JQ c Q e tm C F := JQ.st h fun w hs => hs.forget (List.take_sublist n C)
theorem ckrow {C : List Chunk} {F : World → Prop} {w : World} {A : Option Addr} {n k sz : Nat} {e : TypeId} {xs : List Value} (i : Nat) (hk : C[i]? = some (.row (.slice A n k) e sz n xs)) (h : F w ∧ ∀ x ∈ C, x.sat w) : Sl w A xs := Sl.of_row (e := e) (sz := sz) (n := n) (k := k) (ck i hk h)
theorem strow {c : Cx} {C : List Chunk} {F : World → Prop} {w : World} {A : Option Addr} {n k sz : Nat} {e : TypeId} {xs : List Value} (h : St c w C F) (i : Nat) (hk : C[i]? = some (.row (.slice A n k) e sz n xs)) : Sl w A xs := Sl.of_row (e := e) (sz := sz) (n := n) (k := k) (h.get hk)
theorem sub_len : ∀ (N : Nat) (l : List H) (m : Nat) (known : Bool), l.length ≤ N → 1 ≤ m → m ≤ l.length → (sub l m known).length ≤ l.length := by
  intro N
  induction N with
  | zero => intro l m known h0 h1 h2; omega
  | succ N ih =>
    intro l m known h0 h1 h2
    by_cases hm : m = l.length
    · rw [sub_all l m known hm]
      cases known
      · simp; omega
      · simp
    · have hs := split_spec (show 2 ≤ l.length by omega)
      by_cases hk : m ≤ split l.length
      · have := ih (l.take (split l.length)) m known (by rw [List.length_take]; omega) h1 (by rw [List.length_take]; omega)
        rw [List.length_take] at this
        rw [sub_left l m known h1 (by omega) hk, List.length_append]
        simp only [List.length_cons, List.length_nil]
        omega
      · have := ih (l.drop (split l.length)) (m - split l.length) false (by rw [List.length_drop]; omega) (by omega) (by rw [List.length_drop]; omega)
        rw [List.length_drop] at this
        rw [sub_right l m known (by omega) hk, List.length_append]
        simp only [List.length_cons, List.length_nil]
        omega
theorem start_known {ds : List Bool} {older : H} {p : List H} (h : true ∉ ds) : start ds true older p = run ds older older p := if_pos ⟨rfl, h⟩
theorem start_nil {ds : List Bool} {older : H} (h : true ∈ ds) : start ds true older [] = none := by
  unfold start; rw [if_neg (by simp [h])]
theorem start_cons {ds : List Bool} {older x : H} {r : List H} (h : true ∈ ds) : start ds true older (x :: r) = run ds x x r := by
  unfold start; rw [if_neg (by simp [h])]
/-- The verdict on a proof. -/
def verdict (ds : List Bool) (older newer : H) (p : List H) : Bool := match start ds true older p with
  | some (a, b) => decide (a = older) && decide (b = newer)
  | none => false
theorem run_nil {i la : Nat} {a b : H} (h : la ≠ 0) : run (up i la) a b [] = none := by
  by_cases hR : i % 2 = 1 ∨ i = la
  · rw [up_R h hR]; rfl
  · rw [up_L h hR]; rfl
theorem verdict_end {ds : List Bool} {older newer a b : H} {p q : List H} {i la : Nat} (h : run (up i la) a b q = start ds true older p) (hl : la = 0) : verdict ds older newer p = (decide (q.length = 0) && (decide (a = older) && decide (b = newer))) := by
  subst hl
  unfold verdict
  rw [← h, up_zero]
  cases q with
  | nil => simp [run]
  | cons x r => simp [run]
def chkOk (m n : Nat) (older newer : H) (p : List H) : Bool :=
  if m = 0 then decide (p.length = 0) && (decide (older = sha []) && (decide (0 < n) || decide (newer = older)))
  else if m = n then decide (p.length = 0) && decide (older = newer)
  else verdict (dirs m n) older newer p
def chk (m n : Int) (older newer : H) (p : List H) : Int :=
  if n < 0 ∨ 4096 < n ∨ m < 0 ∨ n < m then 2 else if chkOk m.toNat n.toNat older newer p = true then 0 else 80
/-- The proof, and whether it is refused. -/
def prf (l : List H) (m : Int) : List H := if m ≤ 0 ∨ (l.length : Int) < m then [] else sub l m.toNat true
def prfE (l : List H) (m : Int) : Int := if m < 0 ∨ (l.length : Int) < m then 2 else 0
/-- A guard that never came to a value. -/
theorem wanted_undef {ops : Array Oper} {n i g : Nat} {b : Bool} {og : Oper} {a : Act} (ha : Ag n a tm) (hg : o.guard = some (i, b)) (hi : ops[i]? = some og) (hog : og.dst = some g) (hb : lk tm g = some undef) : Region.wanted o (yielded ops a.tmps) = false := by
  have hget : a.tmps.getD g undef = undef := ha.get g _ hb
  simp only [Array.getD_eq_getD_getElem?] at hget
  cases hq : a.tmps[g]? with
  | none => simp [Region.wanted, hg, yielded, hi, hog, hq]
  | some u =>
    rw [hq] at hget
    have : u = undef := hget
    subst this
    simp [Region.wanted, hg, yielded, hi, hog, hq, undef]
theorem J.gnoU {ops : Array Oper} {i g : Nat} {b : Bool} {og : Oper} (hg : o.guard = some (i, b)) (hi : ops[i]? = some og) (hog : og.dst = some g) (hb : lk tm g = some undef) (hd : o.dst = some d) (hn : Nat.ble (d + 1) c.n = true)
    (h : J c ops Q l ((d, undef) :: tm) C F) : J c ops Q (o :: l) tm C F := by
  intro a w ha hs
  refine wpList_step fun K hK => ?_
  rw [if_neg (by rw [wanted_undef ha hg hi hog hb]; simp), hd]
  exact hK _ _ (h _ w (ha.put (Nat.le_of_ble_eq_true hn) undef) hs)
theorem D.skipGU {Cs : List Chunk} {Fs : World → Prop} {fuel : Nat} {listed : Array Bool} (i : Nat) {gi g : Nat} {b : Bool} {og : Oper} (hi : ops[i]? = some o) (hg : o.guard = some (gi, b)) (hgi : ops[gi]? = some og) (hog : og.dst = some g) (hb : lk tm g = some undef) (hd : o.dst = some d) (hn : Nat.ble (d + 1) c.n = true) (hs : Region.noSelect ops = true) (hf : Region.free .any ops listed i = true) (hr : ((Region.ready .any ops listed).contains i && closedB ops listed) = true)
    (hQ : PQ Q) (h : D c ops Q Cs Fs fuel (listed.setIfInBounds i true) ((d, undef) :: tm) C F) : D c ops Q Cs Fs (fuel + 1) listed tm C F := fun a w ha hst hS =>
  wpAnyL_first (S := fun w => St c w Cs Fs) (v := undef) hi (Region.noSelect_spec hs) (fun ch a w hq => hQ ch _ _ w (by cases o.dst <;> rfl) hq) fuel listed a w (Region.free_spec hi hf) (cls hr) (rdy hr) (.inr ⟨wanted_undef ha hg hgi hog hb, rfl⟩) hS (by
    rw [hd]
    exact h _ w (ha.put (Nat.le_of_ble_eq_true hn) undef) hst hS)
end
end Go.Sx
