/- Speculum proofs: contracts of functions, calls, returns, loops. -/
import Derived.Test.YtjkfeonbioccmaaDoorSxMem
namespace Go.Sx
open Go Go.RowKit
set_option linter.unusedVariables false
set_option linter.unusedSimpArgs false

/-- How a call ends: with a value v i, chunks C1 i that are the caller's now, facts G i that stay. -/
def Post (X M : Nat → Prop) (w : World) {ι : Type} (Φ : ι → Prop) (v : ι → Value) (C1 : ι → List Chunk) (G : ι → World → Prop) : Ending → World → Prop := fun e w' =>
  ∃ i, Φ i ∧ e = .returned (v i) ∧ Fr M w w' ∧ (∀ x ∈ C1 i, x.sat w') ∧ (∀ x ∈ C1 i, ∀ k, x.own = some k → w.heap.size ≤ k ∨ M k) ∧ Apart (C1 i) ∧ SF (fun k => X k ∨ inC (C1 i) k) w' (G i)
def FnSpec (P : Program) (Gl : World → Prop) (f : FuncId) (args : List Value) (Cin : List Chunk) (F : World → Prop) {ι : Type} (Φ : ι → Prop) (v : ι → Value) (C1 : ι → List Chunk) (G : ι → World → Prop) : Prop :=
  ∀ n X M w, St ⟨n, P, X, M, w, Gl⟩ w Cin F → Calls P f args.toArray w (Post X M w Φ v C1 G)
/-- A function that hands back a value, and changes nothing. -/
abbrev PureFn (P : Program) (Gl : World → Prop) (f : FuncId) (args : List Value) (F : World → Prop) (v : Value) : Prop :=
  FnSpec P Gl f args [] F (ι := Unit) (fun _ => True) (fun _ => v) (fun _ => []) (fun _ _ => True)
def callable (P : Program) (f : FuncId) : Bool := match P.funcs[f]? with
  | some fn => !(fn.name == "runtime.NumGoroutine") && !fn.body.isNone
  | none => false
theorem run_program' {P : Program} {w : World} : program.run P w = .ok P w := rfl
theorem run_callFunc {P : Program} {w : World} {f : FuncId} {args : Array Value} (h : callable P f = true) : (callFunc f args).run P w = .ok (.enter f args) w := by
  unfold callable at h
  cases hf : P.funcs[f]? with
  | none => simp [hf] at h
  | some fn =>
    simp only [hf, Bool.and_eq_true, Bool.not_eq_true'] at h
    simp only [callFunc, Sem.run_bind, run_program', Result.andThen_ok, hf]
    rw [if_neg (by rw [h.1]; simp), if_neg (by rw [h.2]; simp)]
    rfl
def evs (tm : Env) : List Operand → Option (List Value)
  | [] => some []
  | x :: r => match ev tm x, evs tm r with
    | some v, some vs => some (v :: vs)
    | _, _ => none
theorem Ag.evs {n : Nat} {a : Act} {tm : Env} {xs : List Operand} {vs : List Value} (h : Ag n a tm) (hx : evs tm xs = some vs) : xs.map a.eval = vs := by
  induction xs generalizing vs with
  | nil => cases hx; rfl
  | cons x r ih =>
    simp only [Sx.evs] at hx
    split at hx
    · rename_i v us h1 h2
      injection hx with hx
      subst hx
      rw [List.map_cons, h.ev h1, ih h2]
    · cases hx
section
variable {c : Cx} {ops : Array Oper} {Q : Exit → Act → World → Prop} {tm tm' : Env} {C C' Cin Cr : List Chunk} {F F' : World → Prop} {l : List Oper} {o : Oper} {v vx vy : Value} {x y z : Operand} {t t' e : TypeId} {d : Nat}
  {ι : Type} {Φ : ι → Prop} {vi : ι → Value} {C1 : ι → List Chunk} {G : ι → World → Prop}
theorem inC_append {A B : List Chunk} {k : Nat} : inC (A ++ B) k ↔ inC A k ∨ inC B k := by
  constructor
  · rintro ⟨x, hx, he⟩
    rcases List.mem_append.1 hx with h | h
    · exact .inl ⟨x, h, he⟩
    · exact .inr ⟨x, h, he⟩
  · rintro (⟨x, hx, he⟩ | ⟨x, hx, he⟩)
    · exact ⟨x, List.mem_append_left _ hx, he⟩
    · exact ⟨x, List.mem_append_right _ hx, he⟩
theorem St.enter {w : World} (n : Nat) (h : St c w (Cin ++ Cr) F) : St ⟨n, c.P, fun k => c.X k ∨ inC (Cin ++ Cr) k, inC Cin, w, c.Gl⟩ w Cin F := by
  refine ⟨fun k hk => ?_, fun k hk => .inr (inC_append.2 (.inl hk)), Fr.refl _ _, fun x hx => h.sat x (List.mem_append_left _ hx), fun x hx k hk => .inr ⟨x, hx, hk⟩, (List.pairwise_append.1 h.nd).1, h.sf.less fun k hk => ?_⟩
  · rcases hk with hk | ⟨x, hx, he⟩
    · exact Nat.lt_of_lt_of_le (h.bX k hk) h.fr.size
    · exact Chunk.lt (h.sat x hx) k he
  · rcases hk with (hk | hk) | hk
    · exact .inl hk
    · exact .inr hk
    · exact .inr (inC_append.2 (.inl hk))
theorem St.leave {w w' : World} (h : St c w (Cin ++ Cr) F) {D : List Chunk} {H : World → Prop} (hfr : Fr (inC Cin) w w') (hsat : ∀ x ∈ D, x.sat w') (hloc : ∀ x ∈ D, ∀ k, x.own = some k → w.heap.size ≤ k ∨ inC Cin k) (hnd : Apart D)
    (hsf : SF (fun k => (c.X k ∨ inC (Cin ++ Cr) k) ∨ inC D k) w' H) : St c w' (D ++ Cr) fun w => F w ∧ H w := by
  obtain ⟨h1, h2, h3⟩ := List.pairwise_append.1 h.nd
  have hr : ∀ x ∈ Cr, x.sat w' := fun x hx => Chunk.move (h.sat x (List.mem_append_right _ hx)) fun k hk => hfr.block k (Chunk.lt (h.sat x (List.mem_append_right _ hx)) k hk) (fun ⟨y, hy, he⟩ => h3 y hy x hx k he hk)
  have hst : St c w' (D ++ Cr) F := by
    refine h.step hfr (fun k _ hk => inC_append.2 (.inl hk)) (fun x hx => ?_) (fun x hx k hk => ?_) (List.pairwise_append.2 ⟨hnd, h2, fun x hx y hy k hk he => ?_⟩)
    · rcases List.mem_append.1 hx with hx | hx
      · exact hsat x hx
      · exact hr x hx
    · rcases List.mem_append.1 hx with hx | hx
      · rcases hloc x hx k hk with h' | h'
        · exact .inr h'
        · exact .inl (inC_append.2 (.inl h'))
      · exact .inl (inC_append.2 (.inr ⟨x, hx, hk⟩))
    · have hlt := Chunk.lt (h.sat y (List.mem_append_right _ hy)) k he
      rcases hloc x hx k hk with h' | ⟨z, hz, hze⟩
      · omega
      · exact h3 z hz y hy k hze he
  refine ⟨hst.bX, hst.mX, hst.fr, hst.sat, hst.loc, hst.nd, (SF.and hst.sf (hsf.less fun k hk => ?_)).imp fun w h => ⟨h.1.1, h.1.2, h.2⟩⟩
  rcases hk with hk | hk
  · exact .inl (.inl hk)
  · rcases inC_append.1 hk with hk | hk
    · exact .inr hk
    · exact .inl (.inr (inC_append.2 (.inr hk)))
/-- The callee may read what the caller owns. -/
theorem St.enterR {w : World} (n : Nat) (h : St c w (Cin ++ Cr) F) : St ⟨n, c.P, fun k => (c.X k ∧ ¬ inC Cr k) ∨ inC Cin k, inC Cin, w, c.Gl⟩ w Cin (fun w => F w ∧ ∀ x ∈ Cr, x.sat w) := by
  obtain ⟨h1, h2, h3⟩ := List.pairwise_append.1 h.nd
  refine ⟨fun k hk => ?_, fun k hk => .inr hk, Fr.refl _ _, fun x hx => h.sat x (List.mem_append_left _ hx), fun x hx k hk => .inr ⟨x, hx, hk⟩, h1, fun w' hw => ?_⟩
  · rcases hk with ⟨hk, _⟩ | ⟨x, hx, he⟩
    · exact Nat.lt_of_lt_of_le (h.bX k hk) h.fr.size
    · exact Chunk.lt (h.sat x (List.mem_append_left _ hx)) k he
  · have h4 := h.sf w' (hw.mono fun k hk => by
      rcases hk with (⟨hk, _⟩ | hk) | hk
      · exact .inl hk
      · exact .inr (inC_append.2 (.inl hk))
      · exact .inr (inC_append.2 (.inl hk)))
    refine ⟨h4.1, h4.2, fun x hx => Chunk.move (h.sat x (List.mem_append_right _ hx)) fun k hk => hw.block k (Chunk.lt (h.sat x (List.mem_append_right _ hx)) k hk) (fun hX => ?_)⟩
    have hno : ∀ k', inC Cin k' → x.own ≠ some k' := fun k' ⟨y, hy, he⟩ hxk => h3 y hy x hx k' he hxk
    rcases hX with (⟨_, hn⟩ | hX) | hX
    · exact hn ⟨x, hx, hk⟩
    · exact hno k hX hk
    · exact hno k hX hk
theorem St.leaveR {w w' : World} (h : St c w (Cin ++ Cr) F) {D : List Chunk} (hfr : Fr (inC Cin) w w') (hsat : ∀ x ∈ D, x.sat w') (hloc : ∀ x ∈ D, ∀ k, x.own = some k → w.heap.size ≤ k ∨ inC Cin k) (hnd : Apart D) : St c w' (D ++ Cr) F :=
  (h.leave (H := fun _ => True) hfr hsat hloc hnd fun _ _ => trivial).imp fun w h => h.1
theorem ck {C : List Chunk} {F : World → Prop} {w : World} {x : Chunk} (k : Nat) (hk : C[k]? = some x) (h : F w ∧ ∀ x ∈ C, x.sat w) : x.sat w := h.2 x (List.mem_of_getElem? hk)
theorem J.enterR {f : FuncId} {args : List Value} (hg : o.guard = none) (hd : o.dst = some d) (hn : Nat.ble (d + 1) c.n = true)
    (hr : ∀ a w, Ag c.n a tm → (execOp a.eval o).run c.P w = .ok (.enter f args.toArray) w) (hC : C = Cin ++ Cr) (hs : FnSpec c.P c.Gl f args Cin (fun w => F w ∧ ∀ x ∈ Cr, x.sat w) Φ vi C1 G)
    (h : ∀ i, Φ i → J c ops Q l ((d, vi i) :: tm) (C1 i ++ Cr) F) : J c ops Q (o :: l) tm C F := by
  subst hC
  intro a w ha hst
  refine wpList_plain hg fun K hK => ?_
  unfold Oper.wp
  rw [hr a w ha, Oper.upon_enter]
  refine (hs c.n _ _ w (hst.enterR c.n)).mono ?_
  rintro e w' ⟨i, hi, rfl, hfr, hsat, hloc, hnd, hsf⟩
  rw [hd]
  exact hK _ _ (h i hi _ w' (ha.put (Nat.le_of_ble_eq_true hn) _) (hst.leaveR hfr hsat hloc hnd))
theorem run_call {f : FuncId} {xs : Array Operand} {ats : Array TypeId} {args : List Value} (ho : o.op = .call { callee := .value (.func f), args := xs, argTypes := ats }) (hf : callable c.P f = true) (hx : evs tm xs.toList = some args) :
    ∀ a w, Ag c.n a tm → (execOp a.eval o).run c.P w = .ok (.enter f args.toArray) w := fun a w ha => by
  have he : xs.map a.eval = args.toArray := by
    apply Array.ext'
    simpa using ha.evs hx
  simp only [execOp, ho, resolve, he, Sem.run_bind]
  simp only [Act.eval, Deferred.ofValue, Sem.run_pure, Result.andThen_ok, invoke, Array.append_empty, Array.empty_append]
  exact run_callFunc hf
theorem run_callc {f : FuncId} {xs : Array Operand} {ats : Array TypeId} {args caps : List Value} (ho : o.op = .call { callee := .value z, args := xs, argTypes := ats }) (hz : ev tm z = some (.func (.func f) #[] caps.toArray)) (hf : callable c.P f = true) (hx : evs tm xs.toList = some args) :
    ∀ a w, Ag c.n a tm → (execOp a.eval o).run c.P w = .ok (.enter f (args ++ caps).toArray) w := fun a w ha => by
  have he : xs.map a.eval = args.toArray := by
    apply Array.ext'
    simpa using ha.evs hx
  have hap : args.toArray ++ caps.toArray = (args ++ caps).toArray := by simp
  simp only [execOp, ho, resolve, he, Sem.run_bind, ha.ev hz]
  simp only [Deferred.ofValue, Sem.run_pure, Result.andThen_ok, invoke, Array.empty_append, hap]
  exact run_callFunc hf
/-- A call that reads own chunks; no facts come of it. -/
theorem J.callR {f : FuncId} {xs : Array Operand} {ats : Array TypeId} {args : List Value} (ho : o.op = .call { callee := .value (.func f), args := xs, argTypes := ats }) (hg : o.guard = none) (hd : o.dst = some d) (hn : Nat.ble (d + 1) c.n = true)
    (hf : callable c.P f = true) (hx : evs tm xs.toList = some args) (hC : C = Cin ++ Cr) (hs : FnSpec c.P c.Gl f args Cin (fun w => F w ∧ ∀ x ∈ Cr, x.sat w) Φ vi C1 G)
    (h : ∀ i, Φ i → J c ops Q l ((d, vi i) :: tm) (C1 i ++ Cr) F) : J c ops Q (o :: l) tm C F :=
  J.enterR hg hd hn (run_call ho hf hx) hC hs h
theorem J.callcR {f : FuncId} {xs : Array Operand} {ats : Array TypeId} {args caps : List Value} (ho : o.op = .call { callee := .value z, args := xs, argTypes := ats }) (hg : o.guard = none) (hd : o.dst = some d) (hn : Nat.ble (d + 1) c.n = true)
    (hz : ev tm z = some (.func (.func f) #[] caps.toArray)) (hf : callable c.P f = true) (hx : evs tm xs.toList = some args) (hC : C = Cin ++ Cr) (hs : FnSpec c.P c.Gl f (args ++ caps) Cin (fun w => F w ∧ ∀ x ∈ Cr, x.sat w) Φ vi C1 G)
    (h : ∀ i, Φ i → J c ops Q l ((d, vi i) :: tm) (C1 i ++ Cr) F) : J c ops Q (o :: l) tm C F :=
  J.enterR hg hd hn (run_callc ho hz hf hx) hC hs h
theorem J.enter {f : FuncId} {args : List Value} (hg : o.guard = none) (hd : o.dst = some d) (hn : Nat.ble (d + 1) c.n = true)
    (hr : ∀ a w, Ag c.n a tm → (execOp a.eval o).run c.P w = .ok (.enter f args.toArray) w) (hs : FnSpec c.P c.Gl f args Cin F Φ vi C1 G) (hC : C = Cin ++ Cr)
    (h : ∀ i, Φ i → J c ops Q l ((d, vi i) :: tm) (C1 i ++ Cr) fun w => F w ∧ G i w) : J c ops Q (o :: l) tm C F := by
  subst hC
  intro a w ha hst
  refine wpList_plain hg fun K hK => ?_
  unfold Oper.wp
  rw [hr a w ha, Oper.upon_enter]
  refine (hs c.n _ _ w (hst.enter c.n)).mono ?_
  rintro e w' ⟨i, hi, rfl, hfr, hsat, hloc, hnd, hsf⟩
  rw [hd]
  exact hK _ _ (h i hi _ w' (ha.put (Nat.le_of_ble_eq_true hn) _) (hst.leave hfr hsat hloc hnd hsf))
theorem J.call {f : FuncId} {xs : Array Operand} {ats : Array TypeId} {args : List Value} (ho : o.op = .call { callee := .value (.func f), args := xs, argTypes := ats }) (hg : o.guard = none) (hd : o.dst = some d) (hn : Nat.ble (d + 1) c.n = true)
    (hf : callable c.P f = true) (hx : evs tm xs.toList = some args) (hs : FnSpec c.P c.Gl f args Cin F Φ vi C1 G) (hC : C = Cin ++ Cr)
    (h : ∀ i, Φ i → J c ops Q l ((d, vi i) :: tm) (C1 i ++ Cr) fun w => F w ∧ G i w) : J c ops Q (o :: l) tm C F :=
  J.enter hg hd hn (fun a w ha => by
    have he : xs.map a.eval = args.toArray := by
      apply Array.ext'
      simpa using ha.evs hx
    simp only [execOp, ho, resolve, he, Sem.run_bind]
    simp only [Act.eval, Deferred.ofValue, Sem.run_pure, Result.andThen_ok, invoke, Array.append_empty, Array.empty_append]
    exact run_callFunc hf) hs hC h
/-- A call through a function value. -/
theorem J.callc {f : FuncId} {xs : Array Operand} {ats : Array TypeId} {args caps : List Value} (ho : o.op = .call { callee := .value z, args := xs, argTypes := ats }) (hg : o.guard = none) (hd : o.dst = some d) (hn : Nat.ble (d + 1) c.n = true)
    (hz : ev tm z = some (.func (.func f) #[] caps.toArray)) (hf : callable c.P f = true) (hx : evs tm xs.toList = some args) (hs : FnSpec c.P c.Gl f (args ++ caps) Cin F Φ vi C1 G) (hC : C = Cin ++ Cr)
    (h : ∀ i, Φ i → J c ops Q l ((d, vi i) :: tm) (C1 i ++ Cr) fun w => F w ∧ G i w) : J c ops Q (o :: l) tm C F :=
  J.enter hg hd hn (fun a w ha => by
    have he : xs.map a.eval = args.toArray := by
      apply Array.ext'
      simpa using ha.evs hx
    have hap : args.toArray ++ caps.toArray = (args ++ caps).toArray := by simp
    simp only [execOp, ho, resolve, he, Sem.run_bind, ha.ev hz]
    simp only [Deferred.ofValue, Sem.run_pure, Result.andThen_ok, invoke, Array.empty_append, hap]
    exact run_callFunc hf) hs hC h
/-- A call of a function that hands back a value. -/
theorem J.callv {f : FuncId} {xs : Array Operand} {ats : Array TypeId} {args : List Value} (ho : o.op = .call { callee := .value (.func f), args := xs, argTypes := ats }) (hg : o.guard = none) (hd : o.dst = some d) (hn : Nat.ble (d + 1) c.n = true)
    (hf : callable c.P f = true) (hx : evs tm xs.toList = some args) (hs : PureFn c.P c.Gl f args (fun w => F w ∧ ∀ x ∈ C, x.sat w) v) (h : J c ops Q l ((d, v) :: tm) C F) : J c ops Q (o :: l) tm C F :=
  J.callR (Cin := []) (Cr := C) ho hg hd hn hf hx rfl hs fun _ _ => h
theorem J.callcv {f : FuncId} {xs : Array Operand} {ats : Array TypeId} {args caps : List Value} (ho : o.op = .call { callee := .value z, args := xs, argTypes := ats }) (hg : o.guard = none) (hd : o.dst = some d) (hn : Nat.ble (d + 1) c.n = true)
    (hz : ev tm z = some (.func (.func f) #[] caps.toArray)) (hf : callable c.P f = true) (hx : evs tm xs.toList = some args) (hs : PureFn c.P c.Gl f (args ++ caps) (fun w => F w ∧ ∀ x ∈ C, x.sat w) v) (h : J c ops Q l ((d, v) :: tm) C F) : J c ops Q (o :: l) tm C F :=
  J.callcR (Cin := []) (Cr := C) ho hg hd hn hz hf hx rfl hs fun _ _ => h
theorem PureFn.to {P : Program} {Gl : World → Prop} {f : FuncId} {args : List Value} {u : Value} (h : PureFn P Gl f args F v) (e : v = u) : PureFn P Gl f args F u := e ▸ h
/-! ### a function's beginning and its end -/
theorem FnSpec.intro {P : Program} {Gl : World → Prop} {f : FuncId} {fn : Func} {code : Code} {args : List Value} {n : Nat} (hf : P.funcs[f]? = some fn) (hb : fn.body = some code) (hn : fn.ntmps = n) (hl : Nat.ble args.length n = true)
    (h : ∀ X M w, JC ⟨n, P, X, M, w, Gl⟩ code (bodyPost P fn (Post X M w Φ vi C1 G)) (mkEnv 0 args) Cin F) : FnSpec P Gl f args Cin F Φ vi C1 G := by
  intro n' X M w hst
  refine calls_of_wp hf hb ?_
  rw [hn]
  exact h X M w _ w (Ag.start args n (Nat.le_of_ble_eq_true hl)) ⟨hst.bX, hst.mX, hst.fr, hst.sat, hst.loc, hst.nd, hst.sf⟩
theorem Post.of_st {w : World} (h : St c w C F) (i : ι) (hi : Φ i) (hs : (C1 i).Sublist C) (hG : ∀ w, F w → G i w) : Post c.X c.M c.w0 Φ vi C1 G (.returned (vi i)) w := by
  have h' := h.forget hs
  exact ⟨i, hi, rfl, h'.fr, h'.sat, h'.loc, h'.nd, h'.sf.imp fun w h => hG w h.2⟩
/-- The end of a function that hands back a value. -/
theorem Post.pure {w : World} (h : St c w C F) : Post c.X c.M c.w0 (ι := Unit) (fun _ => True) (fun _ => v) (fun _ => []) (fun _ _ => True) (.returned v) w := Post.of_st h () trivial (List.nil_sublist _) fun _ _ => trivial

/-- What a result variable reads as. -/
def rvS (tmps : Array Value) : ResultVar → Sem Value
  | .tmp t => pure (tmps.getD t undef)
  | .cell p t => do loadVar t (← asAddr (tmps.getD p undef))
theorem results_rv (fn : Func) (tmps : Array Value) : results fn tmps = (do let vs ← fn.results.mapM (rvS tmps); pure (if h : vs.size = 1 then vs[0] else .tuple vs)) := rfl
def Rv (c : Cx) (tm : Env) (C : List Chunk) (F : World → Prop) (r : ResultVar) (v : Value) : Prop :=
  ∀ a w, Ag c.n a tm → St c w C F → (rvS a.tmps r).run c.P w = .ok v w
theorem r_tmp {t : Tmp} (h : lk tm t = some v) : Rv c tm C F (.tmp t) v := fun a w ha hs => by
  simp only [rvS, ha.get t v h]; rfl
theorem r_cellA {p : Tmp} {g : Nat} {tt : TypeId} {cs : List Value} (i : Nat) (h : lk tm p = some (.pointer (some ⟨g, 0, none⟩))) (hC : C[i]? = some (.box g tt cs)) (ha : aggO c.P t = some true) (hz : szO c.P t = some cs.length) : Rv c tm C F (.cell p t) (.agg cs.toArray) := fun a w hag hs => by
  simp only [rvS, hag.get p _ h, asAddr, Sem.run_bind, Sem.run_pure, Result.andThen_ok, run_loadA ha hz (At.box (hs.get hC))]
theorem r_cell1 {p : Tmp} {g : Nat} {tt : TypeId} (i : Nat) (h : lk tm p = some (.pointer (some ⟨g, 0, none⟩))) (hC : C[i]? = some (.box g tt [v])) (ha : aggO c.P t = some false) : Rv c tm C F (.cell p t) v := fun a w hag hs => by
  have hc : w.cell? ⟨g, 0, none⟩ = some v := At.one.1 (At.box (hs.get hC))
  simp only [rvS, hag.get p _ h, asAddr, Sem.run_bind, Sem.run_pure, Result.andThen_ok, run_load1 ha hc]
variable {P : Program} {fn : Func} {R : Ending → World → Prop} {r1 r2 r3 r4 : ResultVar} {v1 v2 v3 v4 : Value}
theorem ret0 (hr : fn.results = #[]) (hR : ∀ w, St c w C F → R (.returned (.tuple #[])) w) : JQ c (bodyPost c.P fn R) .ret tm C F := fun a w ha hs =>
  ⟨ha.defers, _, results_none hr a.tmps c.P w, hR w hs⟩
theorem ret1 (hr : fn.results = #[r1]) (h1 : Rv c tm C F r1 v1) (hR : ∀ w, St c w C F → R (.returned v1) w) : JQ c (bodyPost c.P fn R) .ret tm C F := fun a w ha hs =>
  ⟨ha.defers, v1, by
    have e1 := h1 a w ha hs
    rw [results_rv, hr]; simp [e1], hR w hs⟩
theorem ret2 (hr : fn.results = #[r1, r2]) (h1 : Rv c tm C F r1 v1) (h2 : Rv c tm C F r2 v2) (hR : ∀ w, St c w C F → R (.returned (.tuple #[v1, v2])) w) : JQ c (bodyPost c.P fn R) .ret tm C F := fun a w ha hs =>
  ⟨ha.defers, .tuple #[v1, v2], by
    have e1 := h1 a w ha hs
    have e2 := h2 a w ha hs
    rw [results_rv, hr]; simp [e1, e2], hR w hs⟩
theorem ret3 (hr : fn.results = #[r1, r2, r3]) (h1 : Rv c tm C F r1 v1) (h2 : Rv c tm C F r2 v2) (h3 : Rv c tm C F r3 v3) (hR : ∀ w, St c w C F → R (.returned (.tuple #[v1, v2, v3])) w) : JQ c (bodyPost c.P fn R) .ret tm C F := fun a w ha hs =>
  ⟨ha.defers, .tuple #[v1, v2, v3], by
    have e1 := h1 a w ha hs
    have e2 := h2 a w ha hs
    have e3 := h3 a w ha hs
    rw [results_rv, hr]; simp [e1, e2, e3], hR w hs⟩
/-- A body that ends without 'return'. -/
theorem ret_end (h : JQ c (bodyPost c.P fn R) .ret tm C F) : JQ c (bodyPost c.P fn R) .normal tm C F := h

/-! ### loops -/
def Again (P : Program) (body : Code) (Q : Exit → Act → World → Prop) (a : Act) (w : World) : Prop :=
  ∀ (b : Frame) (k : List Item) (cs : List Frame), ∃ e a' w', Q e a' w' ∧ Arrives P (lone (b.at a (.code body :: .inLoop body :: k)) cs w) b k cs e a' w'
theorem JC.loop {σ : Type} (E : σ → Env) (D : σ → List Chunk) (H : σ → World → Prop) (Ψ : σ → Prop) (μ : σ → Nat) {body : Code} (s0 : σ) (h0 : Ψ s0) (ht : ∀ i v, lk (E s0) i = some v → lk tm i = some v) (hs : ∀ w, St c w C F → St c w (D s0) (H s0))
    (h : ∀ s, Ψ s → ∀ K : Act → World → Prop, (∀ s', Ψ s' → μ s' < μ s → ∀ a w, Ag c.n a (E s') → St c w (D s') (H s') → K a w) → JC c body (Exit.then K Q) (E s) (D s) (H s)) : JC c (.loop body) Q tm C F := by
  have key : ∀ n s, μ s = n → Ψ s → ∀ a w, Ag c.n a (E s) → St c w (D s) (H s) → Again c.P body Q a w := by
    intro n
    induction n using Nat.strongRecOn with
    | _ n ih =>
      intro s hn hΨ a w ha hst b k cs
      obtain ⟨e, a₁, w₁, hq, harr⟩ := h s hΨ (Again c.P body Q) (fun s' hs' hlt a w ha hst => ih (μ s') (hn ▸ hlt) s' rfl hs' a w ha hst) a w ha hst b (.inLoop body :: k) cs
      cases e with
      | normal =>
        obtain ⟨e₂, a₂, w₂, hq₂, harr₂⟩ := hq b k cs
        exact ⟨e₂, a₂, w₂, hq₂, .of_steps (Steps.trans harr (.one step_inLoop)) harr₂⟩
      | exit id => exact ⟨_, a₁, w₁, hq, .pass (x := .inLoop body) rfl (fun _ _ => .inl (by simp)) harr⟩
      | goto l => exact ⟨_, a₁, w₁, hq, .pass (x := .inLoop body) rfl (fun _ _ => .inl (by simp)) harr⟩
      | ret => exact ⟨_, a₁, w₁, hq, .pass (x := .inLoop body) rfl (fun _ _ => .inl (by simp)) harr⟩
      | panic ch => exact ⟨_, a₁, w₁, hq, .pass (x := .inLoop body) rfl (fun _ _ => .inl (by simp)) harr⟩
      | outgrown => exact ⟨_, a₁, w₁, hq, .pass (x := .inLoop body) rfl (fun _ _ => .inl (by simp)) harr⟩
  intro a w ha hst b k cs
  obtain ⟨e, a', w', hq, harr⟩ := key _ s0 rfl h0 a w (ha.sub ht) (hs w hst) b k cs
  exact ⟨e, a', w', hq, .of_steps (.one step_loop) harr⟩
end
end Go.Sx
