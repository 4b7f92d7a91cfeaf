/- Speculum proofs: a range over a function: the round, the call of yield, the statement, and what follows it. -/
import Derived.Test.YtjkfeonbioccmaaDoorMf
import Derived.RangeFuncRecord
import Derived.RangeFuncSeq
import Derived.RangeFuncCalls
import Derived.TacticsIn
namespace Go.Sx
open Go Go.RowKit
set_option linter.unusedVariables false
set_option linter.unusedSimpArgs false
/-- The wide fence, within the round of a loop or within none. -/
def Wr (r : Option Nat) : Fence := { Fence.wide with round := r }
abbrev plainOps (l : List Oper) : Prop := ∀ o ∈ l, ∀ c, o.op ≠ .defer c
theorem callsWr {r : Option Nat} {n : Nat} {P : Program} {f : FuncId} {args : Array Value} {w : World} {R : Ending → World → Prop} (h : Calls P f args w R) : CallsIn (Wr r) n P f args w R :=
  (callsIn_wide (n := n)).2 h
theorem rowsWr {r : Option Nat} {n : Nat} {P : Program} {row : String} {args : Array Value} {w : World} {R : Value → World → Prop} (h : Rows P row args w R) : RowsIn (Wr r) n P row args w R := fun c cs _ => by
  obtain ⟨v, w', hv, hs⟩ := h c cs
  exact ⟨v, w', hv, stepsIn_wide.2 hs⟩
theorem noDepth {r : Option Nat} {n : Nat} (h : (Wr r).depth.isSome = true) : 1 ≤ n := by simp [Wr, Fence.wide] at h
theorem wpListIn_of {r : Option Nat} {n : Nat} {P : Program} {ops : Array Oper} {Q Q' : Exit → Act → World → Prop} {post : List Oper} (hl : ¬ LetsOut Q') (hp : ∀ ch a w, Q' (.panic ch) a w → Q (.panic ch) a w)
    (hn : ∀ a w, Q' .normal a w → wpListIn (Wr r) n P ops Q post a w) : ∀ pre : List Oper, plainOps pre → ∀ a w, wpList P ops Q' pre a w → wpListIn (Wr r) n P ops Q (pre ++ post) a w := by
  intro pre
  induction pre with
  | nil => intro _ a w h; exact hn a w h
  | cons o pre ih =>
    intro hd a w h
    have ih' := ih (fun o' ho' => hd o' (List.mem_cons_of_mem _ ho'))
    rw [List.cons_append]
    simp only [wpListIn]
    simp only [wpList] at h
    split
    · rename_i hw
      rw [if_pos hw] at h
      rcases h with h | h
      · refine ⟨fun _ _ => trivial, ?_⟩
        rw [Oper.semAt_eq _ _ _ (hd o List.mem_cons_self)]
        unfold Oper.wp at h
        generalize (execOp a.eval o).run P w = res at h ⊢
        cases res with
        | ok x w' =>
          cases x with
          | value v => exact ih' _ _ h
          | skip => exact ih' _ _ h
          | defer d => exact ih' _ _ h
          | enter f args =>
            refine ⟨noDepth, callsWr (Calls.mono h ?_)⟩
            rintro e w'' he
            cases e with
            | returned v => exact ih' _ _ he
            | panicked ch => exact hp _ _ _ he
            | outgrown => exact absurd he hl
          | row row args => exact ⟨noDepth, rowsWr (Rows.mono h fun v w'' hv => ih' _ _ hv)⟩
          | _ => exact h.elim
        | halt x w' =>
          cases x with
          | panic v => exact hp _ _ _ h
          | _ => exact h.elim
      · exact absurd h.2 hl
    · rename_i hw
      rw [if_neg hw] at h
      exact ⟨fun _ _ => trivial, ih' _ _ h⟩
/-- Nothing lets out; off the end: N. -/
def noOut (Q : Exit → Act → World → Prop) (N : Act → World → Prop) : Exit → Act → World → Prop
  | .normal, a, w => N a w
  | .outgrown, _, _ => False
  | e, a, w => Q e a w
theorem noOut_lets {Q : Exit → Act → World → Prop} {N : Act → World → Prop} : ¬ LetsOut (noOut Q N) := fun ⟨_, _, h⟩ => h
section
variable {c : Cx} {ops : Array Oper} {Q : Exit → Act → World → Prop} {tm tm' tm1 : Env} {C C' Cin Cout Cr : List Chunk} {F : World → Prop} {x : Code} {l pre post : List Oper} {o : Oper} {v : Value} {z : Operand} {d : Nat}
/-- Code of a round of the loop L. -/
def JR (c : Cx) (L : Nat) (code : Code) (Q : Exit → Act → World → Prop) (tm : Env) (C : List Chunk) (F : World → Prop) : Prop :=
  ∀ m a w, Ag c.n a tm → St c w C F → code.wpIn (Wr (some L)) m c.P Q a w
def plainB (l : List Oper) : Bool := l.all fun o => match o.op with
  | .defer _ => false
  | _ => true
theorem plain_of (h : plainB l = true) : plainOps l := fun o ho c e => by
  have := List.all_eq_true.1 h o ho
  rw [e] at this
  cases this
theorem JR.region {L id : Nat} (hl : ¬ LetsOut Q) (hd : plainB l = true) (h : J c l.toArray Q l tm C F) : JR c L (.region id l.toArray false) Q tm C F := fun m a w ha hs => by
  refine wpIn_region_lit ?_
  have := wpListIn_of (r := some L) (n := m) (P := c.P) (ops := l.toArray) (Q := Q) (Q' := Q) (post := []) hl (fun _ _ _ h => h) (fun a w h => h) l (plain_of hd) a w (h a w ha hs)
  rwa [List.append_nil] at this
theorem JR.block {L id : Nat} (h : JR c L x (Exit.inBlock id Q) tm C F) : JR c L (.block id x) Q tm C F := fun m a w ha hs => wpIn_block (h m a w ha hs)
/-- What a call of yield does: it hands back v. -/
def YldSpec (P : Program) (Gl : World → Prop) (L : Nat) (args : List Value) (Cin : List Chunk) (F : World → Prop) (v : Value) (C1 : List Chunk) : Prop :=
  ∀ n X M w, St ⟨n, P, X, M, w, Gl⟩ w Cin F → ∀ m, YieldAt Fence.wide m P L args.toArray w (Post X M w (ι := Unit) (fun _ => True) (fun _ => v) (fun _ => C1) (fun _ _ => True))
theorem YldSpec.imp {P : Program} {Gl F' : World → Prop} {L : Nat} {args : List Value} (h : YldSpec P Gl L args Cin F v C') (hf : ∀ w, F' w → F w) : YldSpec P Gl L args Cin F' v C' := fun n X M w hs m => h n X M w (hs.imp hf) m
theorem wpListIn_yield {L n : Nat} {xs : Array Operand} {ats : Array TypeId} {args : List Value} {C1 : List Chunk} (ho : o.op = .call { callee := .value z, args := xs, argTypes := ats }) (hg : o.guard = none) (hd : o.dst = some d) (hn : Nat.ble (d + 1) c.n = true)
    (hz : ev tm z = some (.func (.yield L) #[] #[])) (hx : evs tm xs.toList = some args) (hC : C = Cin ++ Cr) (hs : YldSpec c.P c.Gl L args Cin (fun w => F w ∧ ∀ x ∈ Cr, x.sat w) v C1)
    (h : ∀ a w, Ag c.n a ((d, v) :: tm) → St c w (C1 ++ Cr) F → wpListIn Fence.wide n c.P ops Q post a w) : ∀ a w, Ag c.n a tm → St c w C F → wpListIn Fence.wide n c.P ops Q (o :: post) a w := by
  subst hC
  intro a w ha hst
  refine wpListIn_plain hg fun K hK => ?_
  refine ⟨fun _ _ => trivial, ?_⟩
  obtain ⟨fn, tmps, assign, body, hy, hR⟩ := hs c.n _ _ w (hst.enterR c.n) (n - 1)
  have hr : (o.semAt Fence.wide.round a.eval).run c.P w = .ok (.round L fn tmps assign body) w := by
    have he : xs.map a.eval = args.toArray := by
      apply Array.ext'
      simpa using ha.evs hx
    rw [show Fence.wide.round = none from rfl, Oper.semAt_none]
    simp only [execOp, ho, resolve, he, Sem.run_bind, ha.ev hz]
    simp only [Deferred.ofValue, Sem.run_pure, Result.andThen_ok, invoke, Array.empty_append]
    exact hy
  rw [hr, Oper.uponIn_round]
  refine ⟨fun h => noDepth (r := none) h, hR.mono ?_⟩
  rintro e w' ⟨i, hi, rfl, hfr, hsat, hloc, hnd, hsf⟩
  rw [hd]
  exact hK _ _ (h _ w' (ha.put (Nat.le_of_ble_eq_true hn) _) (hst.leaveR hfr hsat hloc hnd))
/-- A region that calls yield, once. -/
theorem JC.regionY {id : Nat} (pre : List Oper) (hl : l = pre ++ o :: post) (hd1 : plainB pre = true) (h : J c l.toArray (noOut Q (wpListIn Fence.wide 0 c.P l.toArray Q (o :: post))) pre tm C F) :
    JC c (.region id l.toArray false) Q tm C F := fun a w ha hst => by
  refine (wpIn_wide (n := 0)).1 (wpIn_region_lit ?_)
  have := wpListIn_of (r := none) (n := 0) (P := c.P) (ops := l.toArray) (Q := Q) (Q' := noOut Q (wpListIn Fence.wide 0 c.P l.toArray Q (o :: post))) (post := o :: post) noOut_lets (fun _ _ _ h => h) (fun a w h => h) pre (plain_of hd1) a w (h a w ha hst)
  rw [← hl] at this
  exact this
theorem JQ.yield {L : Nat} {xs : Array Operand} {ats : Array TypeId} {args : List Value} {C1 : List Chunk} (hd2 : plainB post = true)
    (ho : o.op = .call { callee := .value z, args := xs, argTypes := ats }) (hg : o.guard = none) (hd : o.dst = some d) (hn : Nat.ble (d + 1) c.n = true)
    (hz : ev tm z = some (.func (.yield L) #[] #[])) (hx : evs tm xs.toList = some args) (hC : C = Cin ++ Cr) (hs : YldSpec c.P c.Gl L args Cin (fun w => F w ∧ ∀ x ∈ Cr, x.sat w) v C1)
    (h2 : J c ops (noOut Q (Q .normal)) post ((d, v) :: tm) (C1 ++ Cr) F) : JQ c (noOut Q (wpListIn Fence.wide 0 c.P ops Q (o :: post))) .normal tm C F := fun a w ha hst =>
  wpListIn_yield ho hg hd hn hz hx hC hs (fun a w ha hst => by
    have := wpListIn_of (r := none) (n := 0) (P := c.P) (ops := ops) (Q := Q) (Q' := noOut Q (Q .normal)) (post := []) noOut_lets (fun _ _ _ h => h) (fun a w h => h) post (plain_of hd2) a w (h2 a w ha hst)
    rwa [List.append_nil] at this) a w ha hst
theorem JQ.noOut (h : JQ c Q .normal tm C F) : JQ c (noOut Q (Q .normal)) .normal tm C F := h
theorem Fr.putObj (w : World) (L : Nat) (o : Obj) : Fr (fun k => some L = some k) w (w.putObj L o) :=
  ⟨rfl, rfl, rfl, by simp [World.putObj], fun k _ hn => World.putObj_heap_other (fun e => hn (by rw [e]))⟩
/-- A block that is known turns. -/
theorem St.putObj {w : World} {L : Nat} {ob : Obj} (h : St c w (.mp L ob :: C) F) (o' : Obj) : St c (w.putObj L o') (.mp L o' :: C) F :=
  h.upd (i := 0) rfl (Fr.putObj w L o') (World.putObj_heap_same (lt_of_some (h.sat _ List.mem_cons_self))) fun k hk => .inl hk
/-- A round that goes through. -/
theorem YldSpec.round {P : Program} {Gl : World → Prop} {L nn : Nat} {rec : Loop} {args : List Value} {κ : Type} {t1 : κ → Env} {C1 : κ → List Chunk} (hsta : rec.state = .ready) (hpe : rec.pending = none) (hsz : args.length = rec.params.size)
    (hag : Ag nn { tmps := (rec.params.zip args.toArray).foldl (fun tmps (t, a) => tmps.setIfInBounds t a) rec.tmps, defers := [] } tm)
    (hA : ∀ X M w (K : Act → World → Prop), (∀ i a w', Ag nn a (t1 i) → St ⟨nn, P, X, M, w, Gl⟩ w' (.mp L (.loop rec) :: C1 i) F → K a w') → JR ⟨nn, P, X, M, w, Gl⟩ L rec.assign (Exit.then K fun _ _ _ => False) tm (.mp L (.loop rec) :: Cin) F)
    (hB : ∀ i X M w (Q : Exit → Act → World → Prop), ¬ LetsOut Q → (∀ a w', Ag nn a [] → St ⟨nn, P, X, M, w, Gl⟩ w' (.mp L (.loop { rec with state := .busy }) :: Cout) F → Q .normal a w') →
      JR ⟨nn, P, X, M, w, Gl⟩ L rec.body Q (t1 i) (.mp L (.loop { rec with state := .busy }) :: C1 i) F) : YldSpec P Gl L args (.mp L (.loop rec) :: Cin) F (.bool true) (.mp L (.loop rec) :: Cout) := by
  intro n X M w hst m
  have hl : w.heap[L]? = some (.loop rec) := hst.sat _ List.mem_cons_self
  refine ⟨rec.fn, _, rec.assign, rec.body, run_yield hl (by simpa using hsz), roundIn_of_wpIn trivial ?_⟩
  refine hA X M w _ (fun i a w1 ha hs1 => ?_) m _ w hag ⟨hst.bX, hst.mX, hst.fr, hst.sat, hst.loc, hst.nd, hst.sf⟩
  refine ⟨_, run_beginRound (hs1.sat _ List.mem_cons_self) hsta, ?_⟩
  refine hB i X M w _ (fun ⟨_, _, h⟩ => h) (fun a w3 ha3 hs3 => ?_) m _ _ ha (hs1.putObj _)
  refine ⟨_, _, run_endRound none (hs3.sat _ List.mem_cons_self), ?_⟩
  have h4 := hs3.putObj (.loop rec)
  have e : ({ ({ rec with state := .busy } : Loop) with state := if (none : Option Code).isNone then LoopState.ready else LoopState.done, pending := none } : Loop) = rec := by
    obtain ⟨a, b, c, d, e, f, g, i⟩ := rec
    simp only at hsta hpe
    subst hsta hpe
    rfl
  rw [e]
  exact Post.of_st h4 () trivial (List.Sublist.refl _) fun _ _ => trivial
abbrev mark (D : Nat) : Deferred := { target := .collected D, args := #[] }
/-- The statement. -/
theorem JC.over {g : Operand} {ps : Array Tmp} {asg body : Code} {f : FuncId} {caps : List Value} (hg : ev tm g = some (.func (.func f) #[] caps.toArray)) (hf : callable c.P f = true) (hC : C = Cin ++ Cr)
    (hs : ∀ (L : Nat) (rec : Loop), rec.state = .ready → rec.pending = none → rec.params = ps → rec.assign = asg → rec.body = body → Ag c.n { tmps := rec.tmps, defers := [] } tm →
      FnSpec c.P c.Gl f (.func (.yield L) #[] #[] :: caps) (.mp L (.loop rec) :: Cin) (fun w => F w ∧ ∀ x ∈ Cr, x.sat w) (ι := Unit) (fun _ => True) (fun _ => .tuple #[]) (fun _ => .mp L (.loop rec) :: Cout) (fun _ _ => True))
    (h : ∀ D a w, Ag c.n { a with defers := [] } tm → a.defers = [mark D] → St c w (.mp D (.deferred (some [])) :: (Cout ++ Cr)) F → Q .normal a w) : JC c (.rangeFunc g ps asg body) Q tm C F := by
  subst hC
  intro a w ha hst
  refine (wpIn_wide (n := 1)).1 (wpIn_rangeFunc fun fn _ => ?_)
  obtain ⟨rec, hrec⟩ : ∃ rec : Loop, rec = { state := .ready, pending := none, fn, tmps := a.tmps, params := ps, assign := asg, body, defers := w.heap.size } := ⟨_, rfl⟩
  have hs1 : St c (w.alloc (.deferred (some []))) (.mp w.heap.size (.deferred (some [])) :: (Cin ++ Cr)) F :=
    hst.push (Fr.alloc _ _ _) (World.alloc_heap_new w _) fun k hk => by simp only [Chunk.own, Option.some.injEq] at hk; omega
  have hs2 : St c ((w.alloc (.deferred (some []))).alloc (.loop rec)) (.mp (w.heap.size + 1) (.loop rec) :: .mp w.heap.size (.deferred (some [])) :: (Cin ++ Cr)) F :=
    hs1.push (Fr.alloc _ _ _) (by have := World.alloc_heap_new (w.alloc (.deferred (some []))) (.loop rec); rwa [World.size_alloc] at this) fun k hk => by
      simp only [Chunk.own, Option.some.injEq] at hk; rw [World.size_alloc]; omega
  have hs3 : St c ((w.alloc (.deferred (some []))).alloc (.loop rec)) ((.mp (w.heap.size + 1) (.loop rec) :: Cin) ++ (.mp w.heap.size (.deferred (some [])) :: Cr)) F :=
    hs2.perm (List.perm_middle.cons _)
  refine ⟨w.heap.size + 1, [mark w.heap.size], (w.alloc (.deferred (some []))).alloc (.loop rec), { target := .fn (.func f) caps.toArray, args := #[.func (.yield (w.heap.size + 1)) #[] #[]] }, (w.alloc (.deferred (some []))).alloc (.loop rec), f,
    (.func (.yield (w.heap.size + 1)) #[] #[] :: caps).toArray, (w.alloc (.deferred (some []))).alloc (.loop rec), ?_, ?_, fun _ _ => trivial, ?_, fun h => noDepth (r := none) h, ?_⟩
  · rw [hrec]; exact run_enterLoop_outer _ _ _ _ _
  · simp only [resolve, ha.ev hg]
    simp [go_sem]
  · have : (#[Value.func (.yield (w.heap.size + 1)) #[] #[]] ++ caps.toArray) = (.func (.yield (w.heap.size + 1)) #[] #[] :: caps).toArray := by simp
    simp only [invoke, this]
    exact run_callFunc hf
  · refine callsIn_wide.2 (Calls.mono (hs (w.heap.size + 1) rec (by rw [hrec]) (by rw [hrec]) (by rw [hrec]) (by rw [hrec]) (by rw [hrec]) ⟨by rw [hrec]; exact ha.size, rfl, by rw [hrec]; exact ha.get⟩ c.n _ _ _ ((hs3.enterR c.n).imp fun w h => ⟨h.1, fun x hx => h.2 x (List.mem_cons_of_mem _ hx)⟩)) ?_)
    rintro e w' ⟨i, hi, rfl, hfr, hsat, hloc, hnd, hsf⟩
    have hs4 := hs3.leaveR hfr hsat hloc hnd
    have hl : w'.heap[w.heap.size + 1]? = some (.loop rec) := hs4.sat _ List.mem_cons_self
    have hp : rec.pending = none := by rw [hrec]
    have he : (Instr.endLoop (w.heap.size + 1)).run c.P w' = .ok none (w'.putObj (w.heap.size + 1) (.loop { rec with state := .exhausted })) := by
      rw [run_endLoop hl (by rw [hrec]; simp), hp]
    refine ⟨none, _, he, ?_⟩
    have hs5 : St c _ ((.mp (w.heap.size + 1) (.loop { rec with state := .exhausted }) :: Cout) ++ (.mp w.heap.size (.deferred (some [])) :: Cr)) F := hs4.putObj (.loop { rec with state := .exhausted })
    refine h w.heap.size _ _ ⟨ha.size, rfl, ha.get⟩ ?_ ((hs5.forget (List.sublist_cons_self _ _)).perm List.perm_middle.symm)
    show [mark w.heap.size] ++ a.defers = _
    rw [ha.defers]; rfl
/-! ### what follows: the mark stands among the deferred calls -/
theorem put_defers (a : Act) (ds : List Deferred) (d : Option Tmp) (v : Value) : ({ a with defers := ds } : Act).put d v = { a.put d v with defers := ds } := by
  cases d <;> rfl
theorem Calls.some {P : Program} {f : FuncId} {args : Array Value} {w : World} {R : Ending → World → Prop} (h : Calls P f args w R) : ∃ e w', R e w' := by
  obtain ⟨e, w', _, hr, _⟩ := h []
  exact ⟨e, w', hr⟩
theorem Rows.some {P : Program} {row : String} {args : Array Value} {w : World} {R : Value → World → Prop} (h : Rows P row args w R) : ∃ v w', R v w' := by
  obtain ⟨v, w', hr, _⟩ := h default []
  exact ⟨v, w', hr⟩
theorem put_defers' (a : Act) (d : Option Tmp) (v : Value) : (a.put d v).defers = a.defers := by cases d <;> rfl
/-- Deferred calls do not go away. -/
theorem wpList_stay {P : Program} (hQ : ∀ e a w, Q e a w → a.defers = []) (hlo : ¬ LetsOut Q) : ∀ (l : List Oper) (a : Act) (w : World), a.defers ≠ [] → ¬ wpList P ops Q l a w := by
  have hl : ∀ a w, a.defers ≠ [] → ∀ e, ¬ Q e a w := fun a w ha e h => ha (hQ e a w h)
  intro l
  induction l with
  | nil => intro a w ha h; exact hl a w ha _ h
  | cons o l ih =>
    intro a w ha h
    have hp : ∀ d v, (a.put d v).defers ≠ [] := fun d v => by rw [put_defers']; exact ha
    simp only [wpList] at h
    split at h
    · rcases h with h | h
      · unfold Oper.wp at h
        generalize (execOp a.eval o).run P w = res at h
        cases res with
        | ok x w' =>
          cases x with
          | value v => exact ih _ _ (hp _ _) h
          | skip => exact ih _ _ (hp _ _) h
          | defer d => exact ih _ _ (by rw [put_defers']; exact List.cons_ne_nil _ _) h
          | enter f args =>
            obtain ⟨e, w'', he⟩ := Calls.some h
            cases e with
            | returned v => exact ih _ _ (hp _ _) he
            | panicked ch => exact hl _ _ ha _ he
            | outgrown => exact hlo he
          | row row args =>
            obtain ⟨v, w'', he⟩ := Rows.some h
            exact ih _ _ (hp _ _) he
          | _ => exact h.elim
        | halt x w' =>
          cases x with
          | panic v => exact hl _ _ ha _ h
          | _ => exact h.elim
      · exact hlo h.2
    · exact ih _ _ (hp _ _) h
theorem wpList_defers {P : Program} {Q' : Exit → Act → World → Prop} {ds : List Deferred} (hQ0 : ∀ e a w, Q' e a w → a.defers = []) (hQ : ∀ e a w, Q' e a w → Q e { a with defers := ds } w) (hl : ¬ LetsOut Q') : ∀ (l : List Oper) (a : Act) (w : World), wpList P ops Q' l a w → wpList P ops Q l { a with defers := ds } w := by
  intro l
  induction l with
  | nil => intro a w h; exact hQ _ _ _ h
  | cons o l ih =>
    intro a w h
    have ih' := ih
    simp only [wpList] at h ⊢
    split
    · rename_i hw
      rw [if_pos hw] at h
      rcases h with h | h
      · refine .inl ?_
        unfold Oper.wp at h ⊢
        have hev : ({ a with defers := ds } : Act).eval = a.eval := by funext z; cases z <;> rfl
        rw [hev]
        generalize (execOp a.eval o).run P w = res at h ⊢
        cases res with
        | ok x w' =>
          cases x with
          | value v => simp only [Oper.upon] at h ⊢; rw [put_defers]; exact ih' _ _ h
          | skip => simp only [Oper.upon] at h ⊢; rw [put_defers]; exact ih' _ _ h
          | defer d => exact absurd h (wpList_stay hQ0 hl l _ _ (by rw [put_defers']; exact List.cons_ne_nil _ _))
          | enter f args =>
            refine Calls.mono h ?_
            rintro e w'' he
            cases e with
            | returned v => simp only at he ⊢; rw [put_defers]; exact ih' _ _ he
            | panicked ch => exact hQ _ _ _ he
            | outgrown => exact absurd he hl
          | row row args => exact Rows.mono h fun v w'' hv => by rw [put_defers]; exact ih' _ _ hv
          | _ => exact h.elim
        | halt x w' =>
          cases x with
          | panic v => exact hQ _ _ _ h
          | _ => exact h.elim
      · exact absurd h.2 hl
    · rename_i hw
      rw [if_neg hw] at h
      rw [put_defers]
      exact ih' _ _ h
variable {fn : Func} {R : Ending → World → Prop} {r1 r2 : ResultVar} {v1 v2 : Value}
/-- One region and 'return', behind the statement. -/
theorem JC.tail2 {id D n : Nat} (hr : fn.results = #[r1, r2]) (hl : ∀ K : Act → World → Prop, (∀ a w, Ag c.n a tm' → St c w (.mp D (.deferred (some [])) :: C') F → K a w) → J c l.toArray (noOut (fun _ _ _ => False) K) l tm (.mp D (.deferred (some [])) :: C) F)
    (h1 : Rv c tm' (.mp D (.deferred none) :: C') F r1 v1) (h2 : Rv c tm' (.mp D (.deferred none) :: C') F r2 v2) (hR : ∀ w, St c w (.mp D (.deferred none) :: C') F → R (.returned (.tuple #[v1, v2])) w) :
    ∀ a w, Ag c.n { a with defers := [] } tm → a.defers = [mark D] → St c w (.mp D (.deferred (some [])) :: C) F → (Code.seq (.region id l.toArray false) .ret).wp c.P (bodyPostM Fence.wide n c.P fn R) a w := by
  intro a w ha hd hst
  refine wp_seq (wp_region_lit ?_)
  have e : a = { ({ a with defers := [] } : Act) with defers := [mark D] } := by
    cases a; simp only at hd ⊢; rw [hd]
  rw [e]
  refine wpList_defers (Q' := noOut (fun _ _ _ => False) fun a w => Ag c.n a tm' ∧ St c w (.mp D (.deferred (some [])) :: C') F) ?_ ?_ noOut_lets l _ _ (hl _ (fun a w ha hs => ⟨ha, hs⟩) _ w ha hst)
  · intro e a w h
    cases e with
    | normal => exact h.1.defers
    | _ => exact h.elim
  · intro e a w h
    cases e with
    | normal =>
      obtain ⟨ha, hs⟩ := h
      refine wp_ret ?_
      have hs' := hs.putObj (.deferred none)
      refine ⟨by simp, .inl ⟨D, _, rfl, run_takeDeferred (hs.sat _ List.mem_cons_self), ?_⟩⟩
      have e1 := h1 a _ ha hs'
      have e2 := h2 a _ ha hs'
      exact ⟨.tuple #[v1, v2], by rw [results_rv, hr]; simp [e1, e2], hR _ hs'⟩
    | _ => exact h.elim
/-- A way out that lies ahead of the statement. -/
theorem ret_marks {n : Nat} (h : JQ c (bodyPost c.P fn R) .ret tm C F) : JQ c (bodyPostM Fence.wide n c.P fn R) .ret tm C F := fun a w ha hs => by
  obtain ⟨hd, v, hv, hR⟩ := h a w ha hs
  show LeavesInM Fence.wide n c.P fn a.tmps R a.defers .returning w
  rw [hd]
  exact ⟨v, hv, hR⟩
theorem FnSpec.introM {P : Program} {Gl : World → Prop} {f : FuncId} {fn : Func} {code : Code} {args : List Value} {n : Nat} {ι : Type} {Φ : ι → Prop} {vi : ι → Value} {C1 : ι → List Chunk} {G : ι → World → Prop} (hf : P.funcs[f]? = some fn) (hb : fn.body = some code) (hn : fn.ntmps = n) (hl : Nat.ble args.length n = true)
    (h : ∀ X M w, JC ⟨n, P, X, M, w, Gl⟩ code (bodyPostM Fence.wide 1 P fn (Post X M w Φ vi C1 G)) (mkEnv 0 args) Cin F) : FnSpec P Gl f args Cin F Φ vi C1 G := by
  intro n' X M w hst
  refine (callsIn_wide (n := 1)).1 (callsIn_of_wp_marks hf hb trivial ?_ rfl)
  rw [hn]
  exact (wpIn_wide (n := 1)).2 (h X M w _ w (Ag.start args n (Nat.le_of_ble_eq_true hl)) ⟨hst.bX, hst.mX, hst.fr, hst.sat, hst.loc, hst.nd, hst.sf⟩)
end
end Go.Sx
