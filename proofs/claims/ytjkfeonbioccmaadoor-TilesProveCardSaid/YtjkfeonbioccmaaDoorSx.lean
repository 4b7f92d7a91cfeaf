/- Speculum proofs: a small symbolic-execution library over the kit's weakest preconditions: environments of slots, a heap of own chunks, stable facts. -/
import Derived.WalkKit
import Derived.OrdersHeld
namespace Go.Sx
open Go Go.RowKit
set_option linter.unusedVariables false

/-! ### slots -/
abbrev Env := List (Nat × Value)
def lk : Env → Nat → Option Value
  | [], _ => none
  | p :: r, i => bif Nat.beq p.1 i then some p.2 else lk r i
def ev (tm : Env) : Operand → Option Value
  | .tmp t => lk tm t
  | .const v => some v
  | .global g => some (.pointer (some ⟨g, 0, none⟩))
  | .func f => some (.func (.func f) #[] #[])
structure Ag (n : Nat) (a : Act) (tm : Env) : Prop where
  size : a.tmps.size = n
  defers : a.defers = []
  get : ∀ i v, lk tm i = some v → a.tmps.getD i undef = v
theorem lk_cons (k i : Nat) (v : Value) (r : Env) : lk ((k, v) :: r) i = if k = i then some v else lk r i := by
  show (bif Nat.beq k i then some v else lk r i) = _
  by_cases h : k = i
  · subst h; simp
  · have : Nat.beq k i = false := by
      cases hb : Nat.beq k i
      · rfl
      · exact absurd (Nat.eq_of_beq_eq_true hb) h
    rw [this, if_neg h]; rfl
theorem Ag.ev {n : Nat} {a : Act} {tm : Env} {x : Operand} {v : Value} (h : Ag n a tm) (hx : ev tm x = some v) : a.eval x = v := by
  cases x with
  | tmp t => exact h.get t v hx
  | const u => injection hx
  | global g => injection hx
  | func f => injection hx
theorem Ag.put {n d : Nat} {a : Act} {tm : Env} (h : Ag n a tm) (hd : d < n) (v : Value) : Ag n (a.put (some d) v) ((d, v) :: tm) := by
  refine ⟨by simp [Act.put, h.size], h.defers, fun i u hi => ?_⟩
  rw [lk_cons] at hi
  simp only [Act.put]
  by_cases e : d = i
  · subst e
    rw [if_pos rfl] at hi
    injection hi with hi
    subst hi
    simp [h.size, hd]
  · rw [if_neg e] at hi
    have := h.get i u hi
    simpa [Array.getElem?_setIfInBounds_ne e] using this
theorem Ag.put_none {n : Nat} {a : Act} {tm : Env} (h : Ag n a tm) (v : Value) : Ag n (a.put none v) tm := h
theorem Ag.sub {n : Nat} {a : Act} {tm tm' : Env} (h : Ag n a tm) (hs : ∀ i v, lk tm' i = some v → lk tm i = some v) : Ag n a tm' :=
  ⟨h.size, h.defers, fun i v hi => h.get i v (hs i v hi)⟩
def mkEnv : Nat → List Value → Env
  | _, [] => []
  | k, v :: r => (k, v) :: mkEnv (k + 1) r
theorem lk_mkEnv (l : List Value) : ∀ k i v, lk (mkEnv k l) i = some v → k ≤ i ∧ l[i - k]? = some v := by
  induction l with
  | nil => intro k i v h; cases h
  | cons u r ih =>
    intro k i v h
    rw [mkEnv, lk_cons] at h
    by_cases e : k = i
    · subst e; rw [if_pos rfl] at h; injection h with h; subst h; simp
    · rw [if_neg e] at h
      obtain ⟨h1, h2⟩ := ih (k + 1) i v h
      refine ⟨by omega, ?_⟩
      rw [show i - k = (i - (k + 1)) + 1 by omega]
      simpa using h2
theorem Ag.start (l : List Value) (n : Nat) (hn : l.length ≤ n) : Ag n { tmps := l.toArray ++ Array.replicate (n - l.toArray.size) undef, defers := [] } (mkEnv 0 l) := by
  refine ⟨by simp; omega, rfl, fun i v h => ?_⟩
  obtain ⟨_, h2⟩ := lk_mkEnv l 0 i v h
  have hi : i < l.length := by
    rcases Nat.lt_or_ge i l.length with h' | h'
    · exact h'
    · simp [List.getElem?_eq_none h'] at h2
  simp only [Array.getD_eq_getD_getElem?]
  rw [Array.getElem?_append_left (by simpa using hi)]
  simp only [List.getElem?_toArray]
  rw [show i - 0 = i by omega] at h2
  rw [h2]; rfl

/-! ### worlds -/
/-- w' is w, but for blocks of M and new ones. -/
structure Fr (M : Nat → Prop) (w w' : World) : Prop where
  os : w'.os = w.os
  tape : w'.tape = w.tape
  output : w'.output = w.output
  size : w.heap.size ≤ w'.heap.size
  block : ∀ k, k < w.heap.size → ¬ M k → w'.heap[k]? = w.heap[k]?
abbrev No : Nat → Prop := fun _ => False
theorem Fr.refl (M : Nat → Prop) (w : World) : Fr M w w := ⟨rfl, rfl, rfl, Nat.le_refl _, fun _ _ _ => rfl⟩
theorem Fr.trans {M : Nat → Prop} {a b c : World} (h : Fr M a b) (k : Fr M b c) : Fr M a c :=
  ⟨k.os.trans h.os, k.tape.trans h.tape, k.output.trans h.output, Nat.le_trans h.size k.size, fun i hi hm => (k.block i (Nat.lt_of_lt_of_le hi h.size) hm).trans (h.block i hi hm)⟩
theorem Fr.mono {M M' : Nat → Prop} {w w' : World} (h : Fr M w w') (hm : ∀ k, M k → M' k) : Fr M' w w' := ⟨h.os, h.tape, h.output, h.size, fun k hk hn => h.block k hk (fun e => hn (hm k e))⟩
theorem Fr.below {w w' : World} (h : Fr No w w') : Below w.heap.size w w' := ⟨h.os, h.tape, h.output, h.size, fun k hk => h.block k hk id⟩
theorem Fr.alloc (M : Nat → Prop) (w : World) (o : Obj) : Fr M w (w.alloc o) := ⟨rfl, rfl, rfl, by simp, fun k hk _ => Below.heap_alloc w o k hk⟩
theorem Fr.drawn (M : Nat → Prop) (w : World) (d : Nat) : Fr M w { w with drawn := d } := ⟨rfl, rfl, rfl, Nat.le_refl _, fun _ _ _ => rfl⟩
theorem Fr.grown {w w' : World} {row : Option Nat} (h : w.grownBy w' row) : Fr (fun k => row = some k) w w' := ⟨h.os, h.tape, h.output, h.size, fun k hk hn => h.block k hk (fun e => hn e.symm)⟩
theorem Fr.setCell (w : World) (a : Addr) (v : Value) : Fr (fun k => k = a.block) w (w.setCell a v) := ⟨rfl, rfl, rfl, by simp [World.setCell], fun k _ hn => Below.heap_setCell w a v k hn⟩
/-- F holds whatever happens to the blocks of X, and whatever is new. -/
def SF (X : Nat → Prop) (w : World) (F : World → Prop) : Prop := ∀ w', Fr X w w' → F w'
section
variable {X X' : Nat → Prop} {w w' : World} {F G : World → Prop}
theorem SF.now (h : SF X w F) : F w := h w (Fr.refl _ _)
theorem SF.step (h : SF X w F) (k : Fr X w w') : SF X w' F := fun w'' h' => h w'' (k.trans h')
theorem SF.imp (h : SF X w F) (k : ∀ w, F w → G w) : SF X w G := fun w' h' => k w' (h w' h')
theorem SF.less (h : SF X w F) (k : ∀ i, X' i → X i) : SF X' w F := fun w' h' => h w' (h'.mono k)
theorem SF.and (h : SF X w F) (k : SF X w G) : SF X w (fun w => F w ∧ G w) := fun w' h' => ⟨h w' h', k w' h'⟩
theorem SF.pure {p : Prop} (h : p) : SF X w (fun _ => p) := fun _ _ => h
end

/-! ### chunks: own blocks that are known -/
inductive Chunk where
  /-- a block known whole -/
  | box (g : Nat) (t : TypeId) (cs : List Value)
  /-- a slice of the call's own: its head's block -/
  | row (v : Value) (e : TypeId) (sz n : Nat) (xs : List Value)
  /-- a map's block -/
  | mp (g : Nat) (o : Obj)
  /-- bytes made of a string, or what came of them -/
  | fro (v : Value) (e : TypeId) (n : Nat) (xs : List Value)
/-- What '[]byte(s)' leaves: its place behind the last cell is marked. -/
def froRow (w : World) (v : Value) (e : TypeId) (n : Nat) (xs : List Value) : Prop :=
  xs.length = n ∧ ∃ g cur, v = .slice (some ⟨g, 0, none⟩) n cur.size ∧ w.heap[g]? = some (.cells cur e (cur.size, cur.size + 1)) ∧ n ≤ cur.size ∧ cur.size ≤ maxLen ∧ cur.toList.take n = xs
def Chunk.own : Chunk → Option Nat
  | .box g _ _ => some g
  | .row v _ _ _ _ => v.ownBlock
  | .mp g _ => some g
  | .fro v _ _ _ => v.ownBlock
def Chunk.sat (w : World) : Chunk → Prop
  | .box g t cs => w.heap[g]? = some (.cells cs.toArray t (0, 0))
  | .row v e sz n xs => w.ownsRow 0 e sz v n xs
  | .mp g o => w.heap[g]? = some o
  | .fro v e n xs => froRow w v e n xs ∨ w.ownsRow 0 e 1 v n xs
theorem lt_of_some {w : World} {g : Nat} {o : Obj} (h : w.heap[g]? = some o) : g < w.heap.size := by
  rcases Nat.lt_or_ge g w.heap.size with h' | h'
  · exact h'
  · rw [Array.getElem?_eq_none h'] at h; cases h
theorem Chunk.lt {w : World} {c : Chunk} (h : c.sat w) : ∀ k, c.own = some k → k < w.heap.size := by
  intro k hk
  cases c with
  | box g t cs => simp only [Chunk.own, Option.some.injEq] at hk; subst hk; exact lt_of_some h
  | row v e sz n xs => exact (World.ownsRow.lt h k hk).2
  | mp g o => simp only [Chunk.own, Option.some.injEq] at hk; subst hk; exact lt_of_some h
  | fro v e n xs =>
    rcases h with ⟨_, g, cur, rfl, hh, _⟩ | h
    · simp only [Chunk.own, Value.ownBlock, Option.some.injEq] at hk; subst hk; exact lt_of_some hh
    · exact (World.ownsRow.lt h k hk).2
theorem row_move {w w' : World} {v : Value} {e : TypeId} {sz n : Nat} {xs : List Value} (h : w.ownsRow 0 e sz v n xs) (hb : ∀ k, v.ownBlock = some k → w'.heap[k]? = w.heap[k]?) : w'.ownsRow 0 e sz v n xs := by
  obtain ⟨h1, h2⟩ := h
  refine ⟨h1, ?_⟩
  rcases h2 with h2 | ⟨g, cap, cur, rfl, hg, hh, r⟩
  · exact .inl h2
  · exact .inr ⟨g, cap, cur, rfl, hg, (hb g rfl).trans hh, r⟩
theorem Chunk.move {w w' : World} {c : Chunk} (h : c.sat w) (hb : ∀ k, c.own = some k → w'.heap[k]? = w.heap[k]?) : c.sat w' := by
  cases c with
  | box g t cs => exact (hb g rfl).trans h
  | row v e sz n xs => exact row_move h hb
  | mp g o => exact (hb g rfl).trans h
  | fro v e n xs =>
    rcases h with ⟨h1, g, cur, rfl, hh, r⟩ | h
    · exact .inl ⟨h1, g, cur, rfl, (hb g rfl).trans hh, r⟩
    · exact .inr (row_move h hb)
def inC (C : List Chunk) (k : Nat) : Prop := ∃ c ∈ C, c.own = some k
abbrev Apart (C : List Chunk) : Prop := C.Pairwise fun x y => ∀ k, x.own = some k → y.own ≠ some k

/-- What a walk is about: slots, program, blocks that facts keep away from, blocks that may be written, the world at the start. -/
structure Cx where
  n : Nat
  P : Program
  X : Nat → Prop
  M : Nat → Prop
  w0 : World
  Gl : World → Prop
structure St (c : Cx) (w : World) (C : List Chunk) (F : World → Prop) : Prop where
  bX : ∀ k, c.X k → k < c.w0.heap.size
  mX : ∀ k, c.M k → c.X k
  fr : Fr c.M c.w0 w
  sat : ∀ x ∈ C, x.sat w
  loc : ∀ x ∈ C, ∀ k, x.own = some k → c.w0.heap.size ≤ k ∨ c.M k
  nd : Apart C
  sf : SF (fun k => c.X k ∨ inC C k) w fun w => c.Gl w ∧ F w
section
variable {c : Cx} {w w' : World} {C C' : List Chunk} {F G : World → Prop}
theorem St.fact (h : St c w C F) : F w := h.sf.now.2
theorem St.glob (h : St c w C F) : c.Gl w := h.sf.now.1
theorem St.locC (h : St c w C F) {k : Nat} (hk : inC C k) : c.w0.heap.size ≤ k ∨ c.M k := by
  obtain ⟨x, hx, he⟩ := hk
  exact h.loc x hx k he
/-- Whatever happens to own blocks. -/
theorem St.step (h : St c w C F) {A : Nat → Prop} (hfr : Fr A w w') (hA : ∀ k, k < w.heap.size → A k → inC C k) (hsat : ∀ x ∈ C', x.sat w')
    (hloc : ∀ x ∈ C', ∀ k, x.own = some k → inC C k ∨ w.heap.size ≤ k) (hnd : Apart C') : St c w' C' F := by
  refine ⟨h.bX, h.mX, ⟨hfr.os.trans h.fr.os, hfr.tape.trans h.fr.tape, hfr.output.trans h.fr.output, Nat.le_trans h.fr.size hfr.size, fun k hk hn => ?_⟩, hsat, fun x hx k he => ?_, hnd, fun w'' hw => ?_⟩
  · refine (hfr.block k (Nat.lt_of_lt_of_le hk h.fr.size) (fun ha => ?_)).trans (h.fr.block k hk hn)
    rcases h.locC (hA k (Nat.lt_of_lt_of_le hk h.fr.size) ha) with h1 | h1
    · omega
    · exact hn h1
  · rcases hloc x hx k he with h1 | h1
    · exact h.locC h1
    · exact .inl (Nat.le_trans h.fr.size h1)
  · refine h.sf w'' ⟨hw.os.trans hfr.os, hw.tape.trans hfr.tape, hw.output.trans hfr.output, Nat.le_trans hfr.size hw.size, fun k hk hn => ?_⟩
    refine (hw.block k (Nat.lt_of_lt_of_le hk hfr.size) (fun hx => ?_)).trans (hfr.block k hk (fun ha => hn (.inr (hA k hk ha))))
    rcases hx with hx | ⟨x, hx, he⟩
    · exact hn (.inl hx)
    · rcases hloc x hx k he with h1 | h1
      · exact hn (.inr h1)
      · omega
theorem St.imp (h : St c w C F) (k : ∀ w, F w → G w) : St c w C G := ⟨h.bX, h.mX, h.fr, h.sat, h.loc, h.nd, h.sf.imp fun w h => ⟨h.1, k w h.2⟩⟩
/-- Only old blocks stay, and new ones come. -/
theorem St.grow (h : St c w C F) (hfr : Fr No w w') : St c w' C F :=
  h.step hfr (fun _ _ ha => ha.elim) (fun x hx => Chunk.move (h.sat x hx) fun k hk => hfr.block k (Chunk.lt (h.sat x hx) k hk) id) (fun x hx k he => .inl ⟨x, hx, he⟩) h.nd
theorem St.push (h : St c w C F) (hfr : Fr No w w') {x : Chunk} (hx : x.sat w') (hn : ∀ k, x.own = some k → w.heap.size ≤ k) : St c w' (x :: C) F := by
  refine h.step hfr (fun _ _ ha => ha.elim) (fun y hy => ?_) (fun y hy k he => ?_) ?_
  · rcases List.mem_cons.1 hy with rfl | hy
    · exact hx
    · exact Chunk.move (h.sat y hy) fun k hk => hfr.block k (Chunk.lt (h.sat y hy) k hk) id
  · rcases List.mem_cons.1 hy with rfl | hy
    · exact .inr (hn k he)
    · exact .inl ⟨y, hy, he⟩
  · refine List.pairwise_cons.2 ⟨fun y hy k hk he => ?_, h.nd⟩
    have := Chunk.lt (h.sat y hy) k he
    have := hn k hk
    omega
theorem St.get (h : St c w C F) {i : Nat} {x : Chunk} (hi : C[i]? = some x) : x.sat w := h.sat x (List.mem_of_getElem? hi)
theorem apart_set {C : List Chunk} {i : Nat} {x y : Chunk} (h : Apart C) (hi : C[i]? = some x) (B : Nat) (hB : ∀ z ∈ C, ∀ k, z.own = some k → k < B) (hy : ∀ k, y.own = some k → x.own = some k ∨ B ≤ k) : Apart (C.set i y) := by
  induction C generalizing i with
  | nil => simp [Apart]
  | cons z r ih =>
    obtain ⟨h1, h2⟩ := List.pairwise_cons.1 h
    cases i with
    | zero =>
      simp only [List.getElem?_cons_zero, Option.some.injEq] at hi
      subst hi
      refine List.pairwise_cons.2 ⟨fun u hu k hk he => ?_, h2⟩
      rcases hy k hk with h' | h'
      · exact h1 u hu k h' he
      · have := hB u (List.mem_cons_of_mem _ hu) k he; omega
    | succ i =>
      simp only [List.getElem?_cons_succ] at hi
      refine List.pairwise_cons.2 ⟨fun u hu k hk he => ?_, ih h2 hi (fun u hu => hB u (List.mem_cons_of_mem _ hu))⟩
      rcases List.mem_or_eq_of_mem_set hu with hu | rfl
      · exact h1 u hu k hk he
      · rcases hy k he with h' | h'
        · exact h1 x (List.mem_of_getElem? hi) k hk h'
        · have := hB z List.mem_cons_self k hk; omega
/-- One chunk turns into another one, at its own block or at a new one. -/
theorem St.upd (h : St c w C F) {i : Nat} {x y : Chunk} (hi : C[i]? = some x) (hfr : Fr (fun k => x.own = some k) w w') (hy : y.sat w') (ho : ∀ k, y.own = some k → x.own = some k ∨ w.heap.size ≤ k) :
    St c w' (C.set i y) F := by
  have hm := List.mem_of_getElem? hi
  have hnd := apart_set h.nd hi w.heap.size (fun z hz k hk => Chunk.lt (h.sat z hz) k hk) ho
  refine h.step hfr (fun k _ hk => ⟨x, hm, hk⟩) (fun z hz => ?_) (fun z hz k he => ?_) hnd
  · obtain ⟨j, hj, hjz⟩ := List.getElem_of_mem hz
    rw [List.getElem_set] at hjz
    by_cases e : i = j
    · rw [if_pos e] at hjz; subst hjz; exact hy
    · rw [if_neg e] at hjz
      have hj' : j < C.length := by simpa using hj
      subst hjz
      refine Chunk.move (h.sat _ (List.getElem_mem hj')) fun k hk => hfr.block k (Chunk.lt (h.sat _ (List.getElem_mem hj')) k hk) (fun hx => ?_)
      have hil : i < C.length := (List.getElem?_eq_some_iff.1 hi).1
      have hxi : C[i] = x := (List.getElem?_eq_some_iff.1 hi).2
      rcases Nat.lt_or_gt_of_ne e with hlt | hgt
      · have := List.pairwise_iff_getElem.1 h.nd i j hil hj' hlt k (by rw [hxi]; exact hx); exact this hk
      · have := List.pairwise_iff_getElem.1 h.nd j i hj' hil hgt k hk; rw [hxi] at this; exact this hx
  · rcases List.mem_or_eq_of_mem_set hz with hz | rfl
    · exact .inl ⟨z, hz, he⟩
    · rcases ho k he with h' | h'
      · exact .inl ⟨x, hm, h'⟩
      · exact .inr h'
theorem inC_mono {C C' : List Chunk} (h : ∀ x ∈ C', x ∈ C) {k : Nat} (hk : inC C' k) : inC C k := by
  obtain ⟨x, hx, he⟩ := hk
  exact ⟨x, h x hx, he⟩
/-- Chunks that are forgotten. -/
theorem St.forget (h : St c w C F) (hs : C'.Sublist C) : St c w C' F :=
  ⟨h.bX, h.mX, h.fr, fun x hx => h.sat x (hs.mem hx), fun x hx => h.loc x (hs.mem hx), h.nd.sublist hs, h.sf.less fun k hk => hk.imp id (inC_mono fun x hx => hs.mem hx)⟩
/-- Some chunks, by a mask. -/
def maskC : List Bool → List Chunk → List Chunk
  | true :: m, x :: r => x :: maskC m r
  | false :: m, _ :: r => maskC m r
  | [], _ => []
  | _, [] => []
theorem maskC_sub (m : List Bool) (C : List Chunk) : (maskC m C).Sublist C := by
  induction C generalizing m with
  | nil => cases m with
    | nil => exact List.Sublist.refl _
    | cons b m => cases b <;> exact List.Sublist.refl _
  | cons x r ih =>
    match m with
    | [] => exact List.nil_sublist _
    | true :: m => exact (ih m).cons_cons x
    | false :: m => exact (ih m).cons x
theorem St.mask (h : St c w C F) (m : List Bool) : St c w (maskC m C) F := h.forget (maskC_sub m C)
theorem St.perm (h : St c w C F) (hp : C'.Perm C) : St c w C' F :=
  ⟨h.bX, h.mX, h.fr, fun x hx => h.sat x (hp.mem_iff.1 hx), fun x hx => h.loc x (hp.mem_iff.1 hx), h.nd.perm hp.symm (fun {x y} hxy k hx hy => hxy k hy hx), h.sf.less fun k hk => hk.imp id (inC_mono fun x hx => hp.mem_iff.1 hx)⟩
/-- A new chunk that is not written any more becomes a fact. -/
theorem St.settle {x : Chunk} (h : St c w (x :: C) F) (hn : ∀ k, x.own = some k → ¬ c.X k) (hG : ∀ w, x.sat w → G w) : St c w C (fun w => F w ∧ G w) := by
  obtain ⟨h1, h2⟩ := List.pairwise_cons.1 h.nd
  refine ⟨h.bX, h.mX, h.fr, fun y hy => h.sat y (List.mem_cons_of_mem _ hy), fun y hy => h.loc y (List.mem_cons_of_mem _ hy), h2, (SF.and (h.sf.less fun k hk => hk.imp id (inC_mono fun y hy => List.mem_cons_of_mem _ hy)) fun w' hw => hG w' ?_).imp fun w h => ⟨h.1.1, h.1.2, h.2⟩⟩
  refine Chunk.move (h.sat x List.mem_cons_self) fun k hk => hw.block k (Chunk.lt (h.sat x List.mem_cons_self) k hk) (fun hx => ?_)
  rcases hx with hx | ⟨y, hy, he⟩
  · exact hn k hk hx
  · exact h1 y hy k hk he
end

/-! ### judgements -/
def J (c : Cx) (ops : Array Oper) (Q : Exit → Act → World → Prop) (l : List Oper) (tm : Env) (C : List Chunk) (F : World → Prop) : Prop :=
  ∀ a w, Ag c.n a tm → St c w C F → wpList c.P ops Q l a w
def JC (c : Cx) (code : Code) (Q : Exit → Act → World → Prop) (tm : Env) (C : List Chunk) (F : World → Prop) : Prop :=
  ∀ a w, Ag c.n a tm → St c w C F → code.wp c.P Q a w
def JQ (c : Cx) (Q : Exit → Act → World → Prop) (e : Exit) (tm : Env) (C : List Chunk) (F : World → Prop) : Prop :=
  ∀ a w, Ag c.n a tm → St c w C F → Q e a w
section
variable {c : Cx} {ops : Array Oper} {Q : Exit → Act → World → Prop} {tm tm' : Env} {C C' : List Chunk} {F F' : World → Prop} {x y : Code} {K : Act → World → Prop} {l : List Oper} {o : Oper}
theorem J.nil (h : JQ c Q .normal tm C F) : J c ops Q [] tm C F := fun a w ha hs => h a w ha hs
theorem JC.region {id : Nat} (h : J c l.toArray Q l tm C F) : JC c (.region id l.toArray false) Q tm C F := fun a w ha hs => wp_region_lit (h a w ha hs)
theorem JC.seq (h : ∀ K : Act → World → Prop, (∀ a w, y.wp c.P Q a w → K a w) → JC c x (Exit.then K Q) tm C F) : JC c (.seq x y) Q tm C F :=
  fun a w ha hs => wp_seq (h _ (fun _ _ h => h) a w ha hs)
theorem JQ.next (hK : ∀ a w, y.wp c.P Q a w → K a w) (h : JC c y Q tm C F) : JQ c (Exit.then K Q) .normal tm C F := fun a w ha hs => hK a w (h a w ha hs)
theorem JQ.then_exit {id : Nat} (h : JQ c Q (.exit id) tm C F) : JQ c (Exit.then K Q) (.exit id) tm C F := h
theorem JQ.then_ret (h : JQ c Q .ret tm C F) : JQ c (Exit.then K Q) .ret tm C F := h
theorem JQ.block_normal {id : Nat} (h : JQ c Q .normal tm C F) : JQ c (Exit.inBlock id Q) .normal tm C F := h
theorem JQ.block_ret {id : Nat} (h : JQ c Q .ret tm C F) : JQ c (Exit.inBlock id Q) .ret tm C F := h
theorem JQ.block_hit {id : Nat} (h : JQ c Q .normal tm C F) : JQ c (Exit.inBlock id Q) (.exit id) tm C F := fun a w ha hs => by
  simp only [Exit.inBlock, if_true]; exact h a w ha hs
theorem JQ.block_miss {id id' : Nat} (hne : Nat.beq id' id = false) (h : JQ c Q (.exit id') tm C F) : JQ c (Exit.inBlock id Q) (.exit id') tm C F := fun a w ha hs => by
  have : id' ≠ id := Nat.ne_of_beq_eq_false hne
  simp only [Exit.inBlock, if_neg this]; exact h a w ha hs
theorem JC.skip (h : JQ c Q .normal tm C F) : JC c .skip Q tm C F := fun a w ha hs => wp_skip (h a w ha hs)
theorem JC.exit {id : Nat} (h : JQ c Q (.exit id) tm C F) : JC c (.exit id) Q tm C F := fun a w ha hs => wp_exit (h a w ha hs)
theorem JC.ret (h : JQ c Q .ret tm C F) : JC c .ret Q tm C F := fun a w ha hs => wp_ret (h a w ha hs)
theorem JC.block {id : Nat} (h : JC c x (Exit.inBlock id Q) tm C F) : JC c (.block id x) Q tm C F := fun a w ha hs => wp_block (h a w ha hs)
theorem JC.cond {z : Operand} {b : Bool} (hz : ev tm z = some (.bool b)) (ht : b = true → JC c x Q tm C F) (hf : b = false → JC c y Q tm C F) : JC c (.cond z x y) Q tm C F :=
  fun a w ha hs => wp_cond_split (ha.ev hz) (fun h => ht h a w ha hs) (fun h => hf h a w ha hs)
theorem JC.condp {z : Operand} {p : Prop} [Decidable p] (hz : ev tm z = some (.bool (decide p))) (ht : p → JC c x Q tm C F) (hf : ¬ p → JC c y Q tm C F) : JC c (.cond z x y) Q tm C F :=
  JC.cond hz (fun h => ht (of_decide_eq_true h)) (fun h => hf (of_decide_eq_false h))
theorem JC.condn {z : Operand} {p : Prop} [Decidable p] (hz : ev tm z = some (.bool (!decide p))) (ht : ¬ p → JC c x Q tm C F) (hf : p → JC c y Q tm C F) : JC c (.cond z x y) Q tm C F :=
  JC.cond hz (fun h => ht (by simpa using h)) (fun h => hf (by simpa using h))
theorem JC.yes {z : Operand} (hz : ev tm z = some (.bool true)) (h : JC c x Q tm C F) : JC c (.cond z x y) Q tm C F := fun a w ha hs => wp_cond_true (ha.ev hz) (h a w ha hs)
theorem JC.no {z : Operand} (hz : ev tm z = some (.bool false)) (h : JC c y Q tm C F) : JC c (.cond z x y) Q tm C F := fun a w ha hs => wp_cond_false (ha.ev hz) (h a w ha hs)
/-- Fewer slots, fewer chunks, weaker facts. -/
theorem JC.weak (h : JC c x Q tm' C' F') (ht : ∀ a, Ag c.n a tm → Ag c.n a tm') (hs : ∀ w, St c w C F → St c w C' F') : JC c x Q tm C F := fun a w ha hs' => h a w (ht a ha) (hs w hs')
theorem J.weak (h : J c ops Q l tm' C' F') (ht : ∀ a, Ag c.n a tm → Ag c.n a tm') (hs : ∀ w, St c w C F → St c w C' F') : J c ops Q l tm C F := fun a w ha hs' => h a w (ht a ha) (hs w hs')
theorem JC.st (h : JC c x Q tm C' F') (hs : ∀ w, St c w C F → St c w C' F') : JC c x Q tm C F := fun a w ha hs' => h a w ha (hs w hs')
theorem J.st (h : J c ops Q l tm C' F') (hs : ∀ w, St c w C F → St c w C' F') : J c ops Q l tm C F := fun a w ha hs' => h a w ha (hs w hs')
theorem JQ.st {e : Exit} (h : JQ c Q e tm C' F') (hs : ∀ w, St c w C F → St c w C' F') : JQ c Q e tm C F := fun a w ha hs' => h a w ha (hs w hs')
/-- What holds by the facts at hand may be used. -/
theorem JC.use {p : Prop} (hp : ∀ w, St c w C F → p) (h : p → JC c x Q tm C F) : JC c x Q tm C F := fun a w ha hs => h (hp w hs) a w ha hs
theorem J.use {p : Prop} (hp : ∀ w, St c w C F → p) (h : p → J c ops Q l tm C F) : J c ops Q l tm C F := fun a w ha hs => h (hp w hs) a w ha hs
def keep (tm : Env) : List Nat → Env
  | [] => []
  | i :: r => match lk tm i with
    | some v => (i, v) :: keep tm r
    | none => keep tm r
theorem lk_append (a b : Env) (i : Nat) : lk (a ++ b) i = match lk a i with | some v => some v | none => lk b i := by
  induction a with
  | nil => rfl
  | cons p r ih =>
    obtain ⟨k, v⟩ := p
    rw [List.cons_append, lk_cons, lk_cons]
    by_cases h : k = i
    · simp [h]
    · rw [if_neg h, if_neg h]; exact ih
theorem lk_keep (tm : Env) (l : List Nat) (i : Nat) (v : Value) (h : lk (keep tm l) i = some v) : lk tm i = some v := by
  induction l with
  | nil => cases h
  | cons j r ih =>
    rw [keep] at h
    split at h
    · rename_i u hu
      rw [lk_cons] at h
      by_cases e : j = i
      · rw [if_pos e] at h; rw [← e, hu]; exact h
      · rw [if_neg e] at h; exact ih h
    · exact ih h
/-- Which slots a piece of code writes. -/
def wrOps : List Oper → List Nat
  | [] => []
  | o :: r => match o.dst with
    | some d => d :: wrOps r
    | none => wrOps r
end
end Go.Sx
