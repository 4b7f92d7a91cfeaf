/- Speculum proofs: a small symbolic-execution library over the kit's weakest preconditions: environments of slots, a heap of own chunks, stable facts. -/
/- Speculum proofs: the laws of single operations. -/
/- Speculum proofs: the laws of operations that read or write memory. -/
/- Speculum proofs: contracts of functions, calls, returns, loops. -/
/- Speculum proofs: regions that draw their order. After the kit's 'wpAnyH' (Derived/OrdersHeld.lean), but the condition S is asked anew only behind operations that some other one is not ordered with. -/
/- Speculum proofs: the plain side: hashes, words, SHA-256. No program in sight. -/
import Derived.WalkKit
import Derived.OrdersHeld
import Derived.WalkLawsBesides
namespace Go.Sx
open Go Go.RowKit
set_option linter.unusedVariables false

/-! ### slots -/
abbrev Env := List (Nat × Value)
def lk : Env → Nat → Option Value
  | [], _ => none
  | p :: r, i => bif Nat.beq p.1 i then some p.2 else lk r i
def ev (tm : Env) : Operand → Option Value
  | .tmp t => lk tm t
  | .const v => some v
  | .global g => some (.pointer (some ⟨g, 0, none⟩))
  | .func f => some (.func (.func f) #[] #[])
structure Ag (n : Nat) (a : Act) (tm : Env) : Prop where
  size : a.tmps.size = n
  defers : a.defers = []
  get : ∀ i v, lk tm i = some v → a.tmps.getD i undef = v
theorem lk_cons (k i : Nat) (v : Value) (r : Env) : lk ((k, v) :: r) i = if k = i then some v else lk r i := by
  show (bif Nat.beq k i then some v else lk r i) = _
  by_cases h : k = i
  · subst h; simp
  · have : Nat.beq k i = false := by
      cases hb : Nat.beq k i
      · rfl
      · exact absurd (Nat.eq_of_beq_eq_true hb) h
    rw [this, if_neg h]; rfl
theorem Ag.ev {n : Nat} {a : Act} {tm : Env} {x : Operand} {v : Value} (h : Ag n a tm) (hx : ev tm x = some v) : a.eval x = v := by
  cases x with
  | tmp t => exact h.get t v hx
  | const u => injection hx
  | global g => injection hx
  | func f => injection hx
theorem Ag.put {n d : Nat} {a : Act} {tm : Env} (h : Ag n a tm) (hd : d < n) (v : Value) : Ag n (a.put (some d) v) ((d, v) :: tm) := by
  refine ⟨by simp [Act.put, h.size], h.defers, fun i u hi => ?_⟩
  rw [lk_cons] at hi
  simp only [Act.put]
  by_cases e : d = i
  · subst e
    rw [if_pos rfl] at hi
    injection hi with hi
    subst hi
    simp [h.size, hd]
  · rw [if_neg e] at hi
    have := h.get i u hi
    simpa [Array.getElem?_setIfInBounds_ne e] using this
theorem Ag.put_none {n : Nat} {a : Act} {tm : Env} (h : Ag n a tm) (v : Value) : Ag n (a.put none v) tm := h
theorem Ag.sub {n : Nat} {a : Act} {tm tm' : Env} (h : Ag n a tm) (hs : ∀ i v, lk tm' i = some v → lk tm i = some v) : Ag n a tm' :=
  ⟨h.size, h.defers, fun i v hi => h.get i v (hs i v hi)⟩
def mkEnv : Nat → List Value → Env
  | _, [] => []
  | k, v :: r => (k, v) :: mkEnv (k + 1) r
theorem lk_mkEnv (l : List Value) : ∀ k i v, lk (mkEnv k l) i = some v → k ≤ i ∧ l[i - k]? = some v := by
  induction l with
  | nil => intro k i v h; cases h
  | cons u r ih =>
    intro k i v h
    rw [mkEnv, lk_cons] at h
    by_cases e : k = i
    · subst e; rw [if_pos rfl] at h; injection h with h; subst h; simp
    · rw [if_neg e] at h
      obtain ⟨h1, h2⟩ := ih (k + 1) i v h
      refine ⟨by omega, ?_⟩
      rw [show i - k = (i - (k + 1)) + 1 by omega]
      simpa using h2
theorem Ag.start (l : List Value) (n : Nat) (hn : l.length ≤ n) : Ag n { tmps := l.toArray ++ Array.replicate (n - l.toArray.size) undef, defers := [] } (mkEnv 0 l) := by
  refine ⟨by simp; omega, rfl, fun i v h => ?_⟩
  obtain ⟨_, h2⟩ := lk_mkEnv l 0 i v h
  have hi : i < l.length := by
    rcases Nat.lt_or_ge i l.length with h' | h'
    · exact h'
    · simp [List.getElem?_eq_none h'] at h2
  simp only [Array.getD_eq_getD_getElem?]
  rw [Array.getElem?_append_left (by simpa using hi)]
  simp only [List.getElem?_toArray]
  rw [show i - 0 = i by omega] at h2
  rw [h2]; rfl

/-! ### worlds -/
/-- w' is w, but for blocks of M and new ones. -/
structure Fr (M : Nat → Prop) (w w' : World) : Prop where
  os : w'.os = w.os
  tape : w'.tape = w.tape
  output : w'.output = w.output
  size : w.heap.size ≤ w'.heap.size
  block : ∀ k, k < w.heap.size → ¬ M k → w'.heap[k]? = w.heap[k]?
abbrev No : Nat → Prop := fun _ => False
theorem Fr.refl (M : Nat → Prop) (w : World) : Fr M w w := ⟨rfl, rfl, rfl, Nat.le_refl _, fun _ _ _ => rfl⟩
theorem Fr.trans {M : Nat → Prop} {a b c : World} (h : Fr M a b) (k : Fr M b c) : Fr M a c :=
  ⟨k.os.trans h.os, k.tape.trans h.tape, k.output.trans h.output, Nat.le_trans h.size k.size, fun i hi hm => (k.block i (Nat.lt_of_lt_of_le hi h.size) hm).trans (h.block i hi hm)⟩
theorem Fr.mono {M M' : Nat → Prop} {w w' : World} (h : Fr M w w') (hm : ∀ k, M k → M' k) : Fr M' w w' := ⟨h.os, h.tape, h.output, h.size, fun k hk hn => h.block k hk (fun e => hn (hm k e))⟩
theorem Fr.below {w w' : World} (h : Fr No w w') : Below w.heap.size w w' := ⟨h.os, h.tape, h.output, h.size, fun k hk => h.block k hk id⟩
theorem Fr.alloc (M : Nat → Prop) (w : World) (o : Obj) : Fr M w (w.alloc o) := ⟨rfl, rfl, rfl, by simp, fun k hk _ => Below.heap_alloc w o k hk⟩
theorem Fr.drawn (M : Nat → Prop) (w : World) (d : Nat) : Fr M w { w with drawn := d } := ⟨rfl, rfl, rfl, Nat.le_refl _, fun _ _ _ => rfl⟩
theorem Fr.grown {w w' : World} {row : Option Nat} (h : w.grownBy w' row) : Fr (fun k => row = some k) w w' := ⟨h.os, h.tape, h.output, h.size, fun k hk hn => h.block k hk (fun e => hn e.symm)⟩
theorem Fr.setCell (w : World) (a : Addr) (v : Value) : Fr (fun k => k = a.block) w (w.setCell a v) := ⟨rfl, rfl, rfl, by simp [World.setCell], fun k _ hn => Below.heap_setCell w a v k hn⟩
/-- F holds whatever happens to the blocks of X, and whatever is new. -/
def SF (X : Nat → Prop) (w : World) (F : World → Prop) : Prop := ∀ w', Fr X w w' → F w'
section
variable {X X' : Nat → Prop} {w w' : World} {F G : World → Prop}
theorem SF.now (h : SF X w F) : F w := h w (Fr.refl _ _)
theorem SF.step (h : SF X w F) (k : Fr X w w') : SF X w' F := fun w'' h' => h w'' (k.trans h')
theorem SF.imp (h : SF X w F) (k : ∀ w, F w → G w) : SF X w G := fun w' h' => k w' (h w' h')
theorem SF.less (h : SF X w F) (k : ∀ i, X' i → X i) : SF X' w F := fun w' h' => h w' (h'.mono k)
theorem SF.and (h : SF X w F) (k : SF X w G) : SF X w (fun w => F w ∧ G w) := fun w' h' => ⟨h w' h', k w' h'⟩
theorem SF.pure {p : Prop} (h : p) : SF X w (fun _ => p) := fun _ _ => h
end

/-! ### chunks: own blocks that are known -/
inductive Chunk where
  /-- a block known whole -/
  | box (g : Nat) (t : TypeId) (cs : List Value)
  /-- a slice of the call's own: its head's block -/
  | row (v : Value) (e : TypeId) (sz n : Nat) (xs : List Value)
  /-- a map's block -/
  | mp (g : Nat) (o : Obj)
  /-- bytes made of a string, or what came of them -/
  | fro (v : Value) (e : TypeId) (n : Nat) (xs : List Value)
/-- What '[]byte(s)' leaves: its place behind the last cell is marked. -/
def froRow (w : World) (v : Value) (e : TypeId) (n : Nat) (xs : List Value) : Prop :=
  xs.length = n ∧ ∃ g cur, v = .slice (some ⟨g, 0, none⟩) n cur.size ∧ w.heap[g]? = some (.cells cur e (cur.size, cur.size + 1)) ∧ n ≤ cur.size ∧ cur.size ≤ maxLen ∧ cur.toList.take n = xs
def Chunk.own : Chunk → Option Nat
  | .box g _ _ => some g
  | .row v _ _ _ _ => v.ownBlock
  | .mp g _ => some g
  | .fro v _ _ _ => v.ownBlock
def Chunk.sat (w : World) : Chunk → Prop
  | .box g t cs => w.heap[g]? = some (.cells cs.toArray t (0, 0))
  | .row v e sz n xs => w.ownsRow 0 e sz v n xs
  | .mp g o => w.heap[g]? = some o
  | .fro v e n xs => froRow w v e n xs ∨ w.ownsRow 0 e 1 v n xs
theorem lt_of_some {w : World} {g : Nat} {o : Obj} (h : w.heap[g]? = some o) : g < w.heap.size := by
  rcases Nat.lt_or_ge g w.heap.size with h' | h'
  · exact h'
  · rw [Array.getElem?_eq_none h'] at h; cases h
theorem Chunk.lt {w : World} {c : Chunk} (h : c.sat w) : ∀ k, c.own = some k → k < w.heap.size := by
  intro k hk
  cases c with
  | box g t cs => simp only [Chunk.own, Option.some.injEq] at hk; subst hk; exact lt_of_some h
  | row v e sz n xs => exact (World.ownsRow.lt h k hk).2
  | mp g o => simp only [Chunk.own, Option.some.injEq] at hk; subst hk; exact lt_of_some h
  | fro v e n xs =>
    rcases h with ⟨_, g, cur, rfl, hh, _⟩ | h
    · simp only [Chunk.own, Value.ownBlock, Option.some.injEq] at hk; subst hk; exact lt_of_some hh
    · exact (World.ownsRow.lt h k hk).2
theorem row_move {w w' : World} {v : Value} {e : TypeId} {sz n : Nat} {xs : List Value} (h : w.ownsRow 0 e sz v n xs) (hb : ∀ k, v.ownBlock = some k → w'.heap[k]? = w.heap[k]?) : w'.ownsRow 0 e sz v n xs := by
  obtain ⟨h1, h2⟩ := h
  refine ⟨h1, ?_⟩
  rcases h2 with h2 | ⟨g, cap, cur, rfl, hg, hh, r⟩
  · exact .inl h2
  · exact .inr ⟨g, cap, cur, rfl, hg, (hb g rfl).trans hh, r⟩
theorem Chunk.move {w w' : World} {c : Chunk} (h : c.sat w) (hb : ∀ k, c.own = some k → w'.heap[k]? = w.heap[k]?) : c.sat w' := by
  cases c with
  | box g t cs => exact (hb g rfl).trans h
  | row v e sz n xs => exact row_move h hb
  | mp g o => exact (hb g rfl).trans h
  | fro v e n xs =>
    rcases h with ⟨h1, g, cur, rfl, hh, r⟩ | h
    · exact .inl ⟨h1, g, cur, rfl, (hb g rfl).trans hh, r⟩
    · exact .inr (row_move h hb)
def inC (C : List Chunk) (k : Nat) : Prop := ∃ c ∈ C, c.own = some k
abbrev Apart (C : List Chunk) : Prop := C.Pairwise fun x y => ∀ k, x.own = some k → y.own ≠ some k

/-- What a walk is about: slots, program, blocks that facts keep away from, blocks that may be written, the world at the start. -/
structure Cx where
  n : Nat
  P : Program
  X : Nat → Prop
  M : Nat → Prop
  w0 : World
  Gl : World → Prop
structure St (c : Cx) (w : World) (C : List Chunk) (F : World → Prop) : Prop where
  bX : ∀ k, c.X k → k < c.w0.heap.size
  mX : ∀ k, c.M k → c.X k
  fr : Fr c.M c.w0 w
  sat : ∀ x ∈ C, x.sat w
  loc : ∀ x ∈ C, ∀ k, x.own = some k → c.w0.heap.size ≤ k ∨ c.M k
  nd : Apart C
  sf : SF (fun k => c.X k ∨ inC C k) w fun w => c.Gl w ∧ F w
section
variable {c : Cx} {w w' : World} {C C' : List Chunk} {F G : World → Prop}
theorem St.fact (h : St c w C F) : F w := h.sf.now.2
theorem St.glob (h : St c w C F) : c.Gl w := h.sf.now.1
theorem St.locC (h : St c w C F) {k : Nat} (hk : inC C k) : c.w0.heap.size ≤ k ∨ c.M k := by
  obtain ⟨x, hx, he⟩ := hk
  exact h.loc x hx k he
/-- Whatever happens to own blocks. -/
theorem St.step (h : St c w C F) {A : Nat → Prop} (hfr : Fr A w w') (hA : ∀ k, k < w.heap.size → A k → inC C k) (hsat : ∀ x ∈ C', x.sat w')
    (hloc : ∀ x ∈ C', ∀ k, x.own = some k → inC C k ∨ w.heap.size ≤ k) (hnd : Apart C') : St c w' C' F := by
  refine ⟨h.bX, h.mX, ⟨hfr.os.trans h.fr.os, hfr.tape.trans h.fr.tape, hfr.output.trans h.fr.output, Nat.le_trans h.fr.size hfr.size, fun k hk hn => ?_⟩, hsat, fun x hx k he => ?_, hnd, fun w'' hw => ?_⟩
  · refine (hfr.block k (Nat.lt_of_lt_of_le hk h.fr.size) (fun ha => ?_)).trans (h.fr.block k hk hn)
    rcases h.locC (hA k (Nat.lt_of_lt_of_le hk h.fr.size) ha) with h1 | h1
    · omega
    · exact hn h1
  · rcases hloc x hx k he with h1 | h1
    · exact h.locC h1
    · exact .inl (Nat.le_trans h.fr.size h1)
  · refine h.sf w'' ⟨hw.os.trans hfr.os, hw.tape.trans hfr.tape, hw.output.trans hfr.output, Nat.le_trans hfr.size hw.size, fun k hk hn => ?_⟩
    refine (hw.block k (Nat.lt_of_lt_of_le hk hfr.size) (fun hx => ?_)).trans (hfr.block k hk (fun ha => hn (.inr (hA k hk ha))))
    rcases hx with hx | ⟨x, hx, he⟩
    · exact hn (.inl hx)
    · rcases hloc x hx k he with h1 | h1
      · exact hn (.inr h1)
      · omega
theorem St.imp (h : St c w C F) (k : ∀ w, F w → G w) : St c w C G := ⟨h.bX, h.mX, h.fr, h.sat, h.loc, h.nd, h.sf.imp fun w h => ⟨h.1, k w h.2⟩⟩
/-- Only old blocks stay, and new ones come. -/
theorem St.grow (h : St c w C F) (hfr : Fr No w w') : St c w' C F :=
  h.step hfr (fun _ _ ha => ha.elim) (fun x hx => Chunk.move (h.sat x hx) fun k hk => hfr.block k (Chunk.lt (h.sat x hx) k hk) id) (fun x hx k he => .inl ⟨x, hx, he⟩) h.nd
theorem St.push (h : St c w C F) (hfr : Fr No w w') {x : Chunk} (hx : x.sat w') (hn : ∀ k, x.own = some k → w.heap.size ≤ k) : St c w' (x :: C) F := by
  refine h.step hfr (fun _ _ ha => ha.elim) (fun y hy => ?_) (fun y hy k he => ?_) ?_
  · rcases List.mem_cons.1 hy with rfl | hy
    · exact hx
    · exact Chunk.move (h.sat y hy) fun k hk => hfr.block k (Chunk.lt (h.sat y hy) k hk) id
  · rcases List.mem_cons.1 hy with rfl | hy
    · exact .inr (hn k he)
    · exact .inl ⟨y, hy, he⟩
  · refine List.pairwise_cons.2 ⟨fun y hy k hk he => ?_, h.nd⟩
    have := Chunk.lt (h.sat y hy) k he
    have := hn k hk
    omega
theorem St.get (h : St c w C F) {i : Nat} {x : Chunk} (hi : C[i]? = some x) : x.sat w := h.sat x (List.mem_of_getElem? hi)
theorem apart_set {C : List Chunk} {i : Nat} {x y : Chunk} (h : Apart C) (hi : C[i]? = some x) (B : Nat) (hB : ∀ z ∈ C, ∀ k, z.own = some k → k < B) (hy : ∀ k, y.own = some k → x.own = some k ∨ B ≤ k) : Apart (C.set i y) := by
  induction C generalizing i with
  | nil => simp [Apart]
  | cons z r ih =>
    obtain ⟨h1, h2⟩ := List.pairwise_cons.1 h
    cases i with
    | zero =>
      simp only [List.getElem?_cons_zero, Option.some.injEq] at hi
      subst hi
      refine List.pairwise_cons.2 ⟨fun u hu k hk he => ?_, h2⟩
      rcases hy k hk with h' | h'
      · exact h1 u hu k h' he
      · have := hB u (List.mem_cons_of_mem _ hu) k he; omega
    | succ i =>
      simp only [List.getElem?_cons_succ] at hi
      refine List.pairwise_cons.2 ⟨fun u hu k hk he => ?_, ih h2 hi (fun u hu => hB u (List.mem_cons_of_mem _ hu))⟩
      rcases List.mem_or_eq_of_mem_set hu with hu | rfl
      · exact h1 u hu k hk he
      · rcases hy k he with h' | h'
        · exact h1 x (List.mem_of_getElem? hi) k hk h'
        · have := hB z List.mem_cons_self k hk; omega
/-- One chunk turns into another one, at its own block or at a new one. -/
theorem St.upd (h : St c w C F) {i : Nat} {x y : Chunk} (hi : C[i]? = some x) (hfr : Fr (fun k => x.own = some k) w w') (hy : y.sat w') (ho : ∀ k, y.own = some k → x.own = some k ∨ w.heap.size ≤ k) :
    St c w' (C.set i y) F := by
  have hm := List.mem_of_getElem? hi
  have hnd := apart_set h.nd hi w.heap.size (fun z hz k hk => Chunk.lt (h.sat z hz) k hk) ho
  refine h.step hfr (fun k _ hk => ⟨x, hm, hk⟩) (fun z hz => ?_) (fun z hz k he => ?_) hnd
  · obtain ⟨j, hj, hjz⟩ := List.getElem_of_mem hz
    rw [List.getElem_set] at hjz
    by_cases e : i = j
    · rw [if_pos e] at hjz; subst hjz; exact hy
    · rw [if_neg e] at hjz
      have hj' : j < C.length := by simpa using hj
      subst hjz
      refine Chunk.move (h.sat _ (List.getElem_mem hj')) fun k hk => hfr.block k (Chunk.lt (h.sat _ (List.getElem_mem hj')) k hk) (fun hx => ?_)
      have hil : i < C.length := (List.getElem?_eq_some_iff.1 hi).1
      have hxi : C[i] = x := (List.getElem?_eq_some_iff.1 hi).2
      rcases Nat.lt_or_gt_of_ne e with hlt | hgt
      · have := List.pairwise_iff_getElem.1 h.nd i j hil hj' hlt k (by rw [hxi]; exact hx); exact this hk
      · have := List.pairwise_iff_getElem.1 h.nd j i hj' hil hgt k hk; rw [hxi] at this; exact this hx
  · rcases List.mem_or_eq_of_mem_set hz with hz | rfl
    · exact .inl ⟨z, hz, he⟩
    · rcases ho k he with h' | h'
      · exact .inl ⟨x, hm, h'⟩
      · exact .inr h'
theorem inC_mono {C C' : List Chunk} (h : ∀ x ∈ C', x ∈ C) {k : Nat} (hk : inC C' k) : inC C k := by
  obtain ⟨x, hx, he⟩ := hk
  exact ⟨x, h x hx, he⟩
/-- Chunks that are forgotten. -/
theorem St.forget (h : St c w C F) (hs : C'.Sublist C) : St c w C' F :=
  ⟨h.bX, h.mX, h.fr, fun x hx => h.sat x (hs.mem hx), fun x hx => h.loc x (hs.mem hx), h.nd.sublist hs, h.sf.less fun k hk => hk.imp id (inC_mono fun x hx => hs.mem hx)⟩
/-- Some chunks, by a mask. -/
def maskC : List Bool → List Chunk → List Chunk
  | true :: m, x :: r => x :: maskC m r
  | false :: m, _ :: r => maskC m r
  | [], _ => []
  | _, [] => []
theorem maskC_sub (m : List Bool) (C : List Chunk) : (maskC m C).Sublist C := by
  induction C generalizing m with
  | nil => cases m with
    | nil => exact List.Sublist.refl _
    | cons b m => cases b <;> exact List.Sublist.refl _
  | cons x r ih =>
    match m with
    | [] => exact List.nil_sublist _
    | true :: m => exact (ih m).cons_cons x
    | false :: m => exact (ih m).cons x
theorem St.mask (h : St c w C F) (m : List Bool) : St c w (maskC m C) F := h.forget (maskC_sub m C)
theorem St.perm (h : St c w C F) (hp : C'.Perm C) : St c w C' F :=
  ⟨h.bX, h.mX, h.fr, fun x hx => h.sat x (hp.mem_iff.1 hx), fun x hx => h.loc x (hp.mem_iff.1 hx), h.nd.perm hp.symm (fun {x y} hxy k hx hy => hxy k hy hx), h.sf.less fun k hk => hk.imp id (inC_mono fun x hx => hp.mem_iff.1 hx)⟩
/-- A new chunk that is not written any more becomes a fact. -/
theorem St.settle {x : Chunk} (h : St c w (x :: C) F) (hn : ∀ k, x.own = some k → ¬ c.X k) (hG : ∀ w, x.sat w → G w) : St c w C (fun w => F w ∧ G w) := by
  obtain ⟨h1, h2⟩ := List.pairwise_cons.1 h.nd
  refine ⟨h.bX, h.mX, h.fr, fun y hy => h.sat y (List.mem_cons_of_mem _ hy), fun y hy => h.loc y (List.mem_cons_of_mem _ hy), h2, (SF.and (h.sf.less fun k hk => hk.imp id (inC_mono fun y hy => List.mem_cons_of_mem _ hy)) fun w' hw => hG w' ?_).imp fun w h => ⟨h.1.1, h.1.2, h.2⟩⟩
  refine Chunk.move (h.sat x List.mem_cons_self) fun k hk => hw.block k (Chunk.lt (h.sat x List.mem_cons_self) k hk) (fun hx => ?_)
  rcases hx with hx | ⟨y, hy, he⟩
  · exact hn k hk hx
  · exact h1 y hy k hk he
end

/-! ### judgements -/
def J (c : Cx) (ops : Array Oper) (Q : Exit → Act → World → Prop) (l : List Oper) (tm : Env) (C : List Chunk) (F : World → Prop) : Prop :=
  ∀ a w, Ag c.n a tm → St c w C F → wpList c.P ops Q l a w
def JC (c : Cx) (code : Code) (Q : Exit → Act → World → Prop) (tm : Env) (C : List Chunk) (F : World → Prop) : Prop :=
  ∀ a w, Ag c.n a tm → St c w C F → code.wp c.P Q a w
def JQ (c : Cx) (Q : Exit → Act → World → Prop) (e : Exit) (tm : Env) (C : List Chunk) (F : World → Prop) : Prop :=
  ∀ a w, Ag c.n a tm → St c w C F → Q e a w
section
variable {c : Cx} {ops : Array Oper} {Q : Exit → Act → World → Prop} {tm tm' : Env} {C C' : List Chunk} {F F' : World → Prop} {x y : Code} {K : Act → World → Prop} {l : List Oper} {o : Oper}
theorem J.nil (h : JQ c Q .normal tm C F) : J c ops Q [] tm C F := fun a w ha hs => h a w ha hs
theorem JC.region {id : Nat} (h : J c l.toArray Q l tm C F) : JC c (.region id l.toArray false) Q tm C F := fun a w ha hs => wp_region_lit (h a w ha hs)
theorem JC.seq (h : ∀ K : Act → World → Prop, (∀ a w, y.wp c.P Q a w → K a w) → JC c x (Exit.then K Q) tm C F) : JC c (.seq x y) Q tm C F :=
  fun a w ha hs => wp_seq (h _ (fun _ _ h => h) a w ha hs)
theorem JQ.next (hK : ∀ a w, y.wp c.P Q a w → K a w) (h : JC c y Q tm C F) : JQ c (Exit.then K Q) .normal tm C F := fun a w ha hs => hK a w (h a w ha hs)
theorem JQ.then_exit {id : Nat} (h : JQ c Q (.exit id) tm C F) : JQ c (Exit.then K Q) (.exit id) tm C F := h
theorem JQ.then_ret (h : JQ c Q .ret tm C F) : JQ c (Exit.then K Q) .ret tm C F := h
theorem JQ.block_normal {id : Nat} (h : JQ c Q .normal tm C F) : JQ c (Exit.inBlock id Q) .normal tm C F := h
theorem JQ.block_ret {id : Nat} (h : JQ c Q .ret tm C F) : JQ c (Exit.inBlock id Q) .ret tm C F := h
theorem JQ.block_hit {id : Nat} (h : JQ c Q .normal tm C F) : JQ c (Exit.inBlock id Q) (.exit id) tm C F := fun a w ha hs => by
  simp only [Exit.inBlock, if_true]; exact h a w ha hs
theorem JQ.block_miss {id id' : Nat} (hne : Nat.beq id' id = false) (h : JQ c Q (.exit id') tm C F) : JQ c (Exit.inBlock id Q) (.exit id') tm C F := fun a w ha hs => by
  have : id' ≠ id := Nat.ne_of_beq_eq_false hne
  simp only [Exit.inBlock, if_neg this]; exact h a w ha hs
theorem JC.skip (h : JQ c Q .normal tm C F) : JC c .skip Q tm C F := fun a w ha hs => wp_skip (h a w ha hs)
theorem JC.exit {id : Nat} (h : JQ c Q (.exit id) tm C F) : JC c (.exit id) Q tm C F := fun a w ha hs => wp_exit (h a w ha hs)
theorem JC.ret (h : JQ c Q .ret tm C F) : JC c .ret Q tm C F := fun a w ha hs => wp_ret (h a w ha hs)
theorem JC.block {id : Nat} (h : JC c x (Exit.inBlock id Q) tm C F) : JC c (.block id x) Q tm C F := fun a w ha hs => wp_block (h a w ha hs)
theorem JC.cond {z : Operand} {b : Bool} (hz : ev tm z = some (.bool b)) (ht : b = true → JC c x Q tm C F) (hf : b = false → JC c y Q tm C F) : JC c (.cond z x y) Q tm C F :=
  fun a w ha hs => wp_cond_split (ha.ev hz) (fun h => ht h a w ha hs) (fun h => hf h a w ha hs)
theorem JC.condp {z : Operand} {p : Prop} [Decidable p] (hz : ev tm z = some (.bool (decide p))) (ht : p → JC c x Q tm C F) (hf : ¬ p → JC c y Q tm C F) : JC c (.cond z x y) Q tm C F :=
  JC.cond hz (fun h => ht (of_decide_eq_true h)) (fun h => hf (of_decide_eq_false h))
theorem JC.condn {z : Operand} {p : Prop} [Decidable p] (hz : ev tm z = some (.bool (!decide p))) (ht : ¬ p → JC c x Q tm C F) (hf : p → JC c y Q tm C F) : JC c (.cond z x y) Q tm C F :=
  JC.cond hz (fun h => ht (by simpa using h)) (fun h => hf (by simpa using h))
theorem JC.yes {z : Operand} (hz : ev tm z = some (.bool true)) (h : JC c x Q tm C F) : JC c (.cond z x y) Q tm C F := fun a w ha hs => wp_cond_true (ha.ev hz) (h a w ha hs)
theorem JC.no {z : Operand} (hz : ev tm z = some (.bool false)) (h : JC c y Q tm C F) : JC c (.cond z x y) Q tm C F := fun a w ha hs => wp_cond_false (ha.ev hz) (h a w ha hs)
/-- Fewer slots, fewer chunks, weaker facts. -/
theorem JC.weak (h : JC c x Q tm' C' F') (ht : ∀ a, Ag c.n a tm → Ag c.n a tm') (hs : ∀ w, St c w C F → St c w C' F') : JC c x Q tm C F := fun a w ha hs' => h a w (ht a ha) (hs w hs')
theorem J.weak (h : J c ops Q l tm' C' F') (ht : ∀ a, Ag c.n a tm → Ag c.n a tm') (hs : ∀ w, St c w C F → St c w C' F') : J c ops Q l tm C F := fun a w ha hs' => h a w (ht a ha) (hs w hs')
theorem JC.st (h : JC c x Q tm C' F') (hs : ∀ w, St c w C F → St c w C' F') : JC c x Q tm C F := fun a w ha hs' => h a w ha (hs w hs')
theorem J.st (h : J c ops Q l tm C' F') (hs : ∀ w, St c w C F → St c w C' F') : J c ops Q l tm C F := fun a w ha hs' => h a w ha (hs w hs')
theorem JQ.st {e : Exit} (h : JQ c Q e tm C' F') (hs : ∀ w, St c w C F → St c w C' F') : JQ c Q e tm C F := fun a w ha hs' => h a w ha (hs w hs')
/-- What holds by the facts at hand may be used. -/
theorem JC.use {p : Prop} (hp : ∀ w, St c w C F → p) (h : p → JC c x Q tm C F) : JC c x Q tm C F := fun a w ha hs => h (hp w hs) a w ha hs
theorem J.use {p : Prop} (hp : ∀ w, St c w C F → p) (h : p → J c ops Q l tm C F) : J c ops Q l tm C F := fun a w ha hs => h (hp w hs) a w ha hs
def keep (tm : Env) : List Nat → Env
  | [] => []
  | i :: r => match lk tm i with
    | some v => (i, v) :: keep tm r
    | none => keep tm r
theorem lk_append (a b : Env) (i : Nat) : lk (a ++ b) i = match lk a i with | some v => some v | none => lk b i := by
  induction a with
  | nil => rfl
  | cons p r ih =>
    obtain ⟨k, v⟩ := p
    rw [List.cons_append, lk_cons, lk_cons]
    by_cases h : k = i
    · simp [h]
    · rw [if_neg h, if_neg h]; exact ih
theorem lk_keep (tm : Env) (l : List Nat) (i : Nat) (v : Value) (h : lk (keep tm l) i = some v) : lk tm i = some v := by
  induction l with
  | nil => cases h
  | cons j r ih =>
    rw [keep] at h
    split at h
    · rename_i u hu
      rw [lk_cons] at h
      by_cases e : j = i
      · rw [if_pos e] at h; rw [← e, hu]; exact h
      · rw [if_neg e] at h; exact ih h
    · exact ih h
/-- Which slots a piece of code writes. -/
def wrOps : List Oper → List Nat
  | [] => []
  | o :: r => match o.dst with
    | some d => d :: wrOps r
    | none => wrOps r
end
end Go.Sx
namespace Go.Sx
open Go Go.RowKit
set_option linter.unusedVariables false
set_option linter.unusedSimpArgs false

/-- In the state that tm, C and F tell, the operation leaves v and nothing else. -/
def Yl (c : Cx) (tm : Env) (C : List Chunk) (F : World → Prop) (o : Oper) (v : Value) : Prop :=
  ∀ a w, Ag c.n a tm → St c w C F → (execOp a.eval o).run c.P w = .ok (.value v) w
section
variable {c : Cx} {ops : Array Oper} {Q : Exit → Act → World → Prop} {tm tm' : Env} {C C' : List Chunk} {F F' : World → Prop} {l : List Oper} {o : Oper} {v v' vx vy : Value} {x y z : Operand} {t t' : TypeId} {d : Nat}
theorem J.yl (hy : Yl c tm C F o v) (hg : o.guard = none) (hd : o.dst = some d) (hn : Nat.ble (d + 1) c.n = true) (h : J c ops Q l ((d, v) :: tm) C F) : J c ops Q (o :: l) tm C F := by
  intro a w ha hs
  refine wpList_plain hg fun K hK => ?_
  unfold Oper.wp
  rw [hy a w ha hs, Oper.upon_value, hd]
  exact hK _ _ (h _ w (ha.put (Nat.le_of_ble_eq_true hn) v) hs)
/-- The same, the value spelled otherwise. -/
theorem Yl.to (h : Yl c tm C F o v) (e : v = v') : Yl c tm C F o v' := e ▸ h
/-- A truth value that is parted on. -/
theorem J.ylb {b : Bool} (hy : Yl c tm C F o (.bool b)) (hg : o.guard = none) (hd : o.dst = some d) (hn : Nat.ble (d + 1) c.n = true)
    (ht : b = true → J c ops Q l ((d, .bool true) :: tm) C F) (hf : b = false → J c ops Q l ((d, .bool false) :: tm) C F) : J c ops Q (o :: l) tm C F := by
  cases b
  · exact J.yl hy hg hd hn (hf rfl)
  · exact J.yl hy hg hd hn (ht rfl)
theorem J.ylp {p : Prop} [Decidable p] (hy : Yl c tm C F o (.bool (decide p))) (hg : o.guard = none) (hd : o.dst = some d) (hn : Nat.ble (d + 1) c.n = true)
    (ht : p → J c ops Q l ((d, .bool true) :: tm) C F) (hf : ¬ p → J c ops Q l ((d, .bool false) :: tm) C F) : J c ops Q (o :: l) tm C F :=
  J.ylb hy hg hd hn (fun h => ht (of_decide_eq_true h)) (fun h => hf (of_decide_eq_false h))
theorem J.yln {p : Prop} [Decidable p] (hy : Yl c tm C F o (.bool (!decide p))) (hg : o.guard = none) (hd : o.dst = some d) (hn : Nat.ble (d + 1) c.n = true)
    (ht : ¬ p → J c ops Q l ((d, .bool true) :: tm) C F) (hf : p → J c ops Q l ((d, .bool false) :: tm) C F) : J c ops Q (o :: l) tm C F :=
  J.ylb hy hg hd hn (fun h => ht (by simpa using h)) (fun h => hf (by simpa using h))
theorem tmps_at {n g : Nat} {a : Act} {b : Bool} (h : Ag n a tm) (hb : lk tm g = some (.bool b)) : a.tmps[g]? = some (.bool b) := by
  have hget : a.tmps.getD g undef = .bool b := h.get g _ hb
  simp only [Array.getD_eq_getD_getElem?] at hget
  cases hq : a.tmps[g]? with
  | none => rw [hq] at hget; cases hget
  | some u => rw [hq] at hget; exact congrArg some hget
/-- A guarded operation that runs. -/
theorem J.gyes {i g : Nat} {b : Bool} {og : Oper} (hy : Yl c tm C F o v) (hg : o.guard = some (i, b)) (hi : ops[i]? = some og) (hog : og.dst = some g) (hb : lk tm g = some (.bool b)) (hd : o.dst = some d) (hn : Nat.ble (d + 1) c.n = true)
    (h : J c ops Q l ((d, v) :: tm) C F) : J c ops Q (o :: l) tm C F := by
  intro a w ha hs
  have hw : Region.wanted o (yielded ops a.tmps) = true := by
    have hget := tmps_at ha hb
    simp [Region.wanted, hg, yielded, hi, hog, hget]
  refine wpList_step fun K hK => ?_
  rw [if_pos hw]
  unfold Oper.wp
  rw [hy a w ha hs, Oper.upon_value, hd]
  exact hK _ _ (h _ w (ha.put (Nat.le_of_ble_eq_true hn) v) hs)
/-- A guarded operation that does not run. -/
theorem J.gno {i g : Nat} {b : Bool} {og : Oper} (hg : o.guard = some (i, !b)) (hi : ops[i]? = some og) (hog : og.dst = some g) (hb : lk tm g = some (.bool b)) (hd : o.dst = some d) (hn : Nat.ble (d + 1) c.n = true)
    (h : J c ops Q l ((d, undef) :: tm) C F) : J c ops Q (o :: l) tm C F := by
  intro a w ha hs
  have hw : Region.wanted o (yielded ops a.tmps) = false := by
    have hget := tmps_at ha hb
    cases b <;> simp [Region.wanted, hg, yielded, hi, hog, hget]
  refine wpList_step fun K hK => ?_
  rw [if_neg (by rw [hw]; simp), hd]
  exact hK _ _ (h _ w (ha.put (Nat.le_of_ble_eq_true hn) undef) hs)

theorem wanted_of {i g : Nat} {b b' : Bool} {og : Oper} {a : Act} {n : Nat} (ha : Ag n a tm) (hg : o.guard = some (i, b)) (hi : ops[i]? = some og) (hog : og.dst = some g) (hb : lk tm g = some (.bool b')) : Region.wanted o (yielded ops a.tmps) = (b' == b) := by
  have hget := tmps_at ha hb
  simp [Region.wanted, hg, yielded, hi, hog, hget]
/-- A guard that holds: the operation is as if it had none. -/
theorem J.gon {i g : Nat} {b : Bool} {og : Oper} (hg : o.guard = some (i, b)) (hi : ops[i]? = some og) (hog : og.dst = some g) (hb : lk tm g = some (.bool b)) (h : J c ops Q ({ o with guard := none } :: l) tm C F) : J c ops Q (o :: l) tm C F := by
  intro a w ha hs
  have hw : Region.wanted o (yielded ops a.tmps) = true := by rw [wanted_of ha hg hi hog hb]; simp
  have h1 := h a w ha hs
  unfold wpList at h1 ⊢
  rw [if_pos hw]
  rw [if_pos (by rfl)] at h1
  exact h1
/-! ### operations that only compute -/
theorem y_move (ho : o.op = .move x) (hx : ev tm x = some v) : Yl c tm C F o v := fun a w ha _ => by
  simp only [execOp, ho, ha.ev hx]; rfl
theorem y_assign (ho : o.op = .assign x) (hx : ev tm x = some v) : Yl c tm C F o v := fun a w ha _ => by
  simp only [execOp, ho, ha.ev hx]; rfl
theorem y_pick {b : Bool} (ho : o.op = .pick z x y) (hz : ev tm z = some (.bool b)) (hx : b = true → ev tm x = some v) (hy : b = false → ev tm y = some v) : Yl c tm C F o v := fun a w ha _ => by
  cases b
  · simp only [execOp, ho, ha.ev hz, ha.ev (hy rfl)]; rfl
  · simp only [execOp, ho, ha.ev hz, ha.ev (hx rfl)]; rfl
theorem y_extract {vs : Array Value} {i : Nat} (ho : o.op = .extract x i) (hx : ev tm x = some (.tuple vs)) (hi : vs[i]? = some v) : Yl c tm C F o v := fun a w ha _ => by
  simp only [execOp, ho, ha.ev hx, Instr.extract, hi]; rfl
/-- A binary operation, by what it computes. -/
theorem y_bin {op : BinOp} (ho : o.op = .binOp op t x y t') (hx : ev tm x = some vx) (hy : ev tm y = some vy) (hg : eqGuard op t x y vx vy = pure ())
    (hr : ∀ w, St c w C F → (binOp op t vx vy).run c.P w = .ok v w) : Yl c tm C F o v := fun a w ha hs => by
  simp only [execOp, ho, ha.ev hx, ha.ev hy, hg]
  simp only [Sem.run_bind, Sem.run_pure, Result.andThen_ok, hr w hs]
theorem eqG_int {op : BinOp} {k : IntKind} {n : Int} : eqGuard op t x y (.int k n) v = pure () := by cases op <;> rfl
theorem eqG_str {op : BinOp} {s : ByteArray} : eqGuard op t x y (.string s) v = pure () := by cases op <;> rfl
theorem eqG_bool {op : BinOp} {b : Bool} : eqGuard op t x y (.bool b) v = pure () := by cases op <;> rfl
section ints
variable {k : IntKind} {a b r : Int}
theorem y_add (ho : o.op = .binOp .add t x y t') (hx : ev tm x = some (.int k a)) (hy : ev tm y = some (.int k b)) (hr : k.wrap (a + b) = r) : Yl c tm C F o (.int k r) :=
  y_bin ho hx hy eqG_int fun w _ => by rw [binOp_add]; simp [Op.intArith, hr]
theorem y_sub (ho : o.op = .binOp .sub t x y t') (hx : ev tm x = some (.int k a)) (hy : ev tm y = some (.int k b)) (hr : k.wrap (a - b) = r) : Yl c tm C F o (.int k r) :=
  y_bin ho hx hy eqG_int fun w _ => by rw [binOp_sub]; simp [Op.intArith, hr]
theorem y_mul (ho : o.op = .binOp .mul t x y t') (hx : ev tm x = some (.int k a)) (hy : ev tm y = some (.int k b)) (hr : k.wrap (a * b) = r) : Yl c tm C F o (.int k r) :=
  y_bin ho hx hy eqG_int fun w _ => by rw [binOp_mul]; simp [Op.intArith, hr]
theorem y_quo (ho : o.op = .binOp .quo t x y t') (hx : ev tm x = some (.int k a)) (hy : ev tm y = some (.int k b)) (hb : b ≠ 0) (hr : k.wrap (a.tdiv b) = r) : Yl c tm C F o (.int k r) :=
  y_bin ho hx hy eqG_int fun w _ => by rw [binOp_quo]; simp [Op.intDiv, hb, hr]
theorem y_rem (ho : o.op = .binOp .rem t x y t') (hx : ev tm x = some (.int k a)) (hy : ev tm y = some (.int k b)) (hb : b ≠ 0) (hr : a.tmod b = r) : Yl c tm C F o (.int k r) :=
  y_bin ho hx hy eqG_int fun w _ => by rw [binOp_rem]; simp [Op.intDiv, hb, hr]
theorem wrap64 {n : Int} (h0 : -9223372036854775808 ≤ n) (h1 : n ≤ 9223372036854775807) : IntKind.i64.wrap n = n := by rw [IntKind.wrap_i64]; omega
theorem y_add64 (ho : o.op = .binOp .add t x y t') (hx : ev tm x = some (.int .i64 a)) (hy : ev tm y = some (.int .i64 b)) (h : -9223372036854775808 ≤ a + b ∧ a + b ≤ 9223372036854775807) : Yl c tm C F o (.int .i64 (a + b)) :=
  y_add ho hx hy (wrap64 h.1 h.2)
theorem y_sub64 (ho : o.op = .binOp .sub t x y t') (hx : ev tm x = some (.int .i64 a)) (hy : ev tm y = some (.int .i64 b)) (h : -9223372036854775808 ≤ a - b ∧ a - b ≤ 9223372036854775807) : Yl c tm C F o (.int .i64 (a - b)) :=
  y_sub ho hx hy (wrap64 h.1 h.2)
theorem y_mul64 (ho : o.op = .binOp .mul t x y t') (hx : ev tm x = some (.int .i64 a)) (hy : ev tm y = some (.int .i64 b)) (h : -9223372036854775808 ≤ a * b ∧ a * b ≤ 9223372036854775807) : Yl c tm C F o (.int .i64 (a * b)) :=
  y_mul ho hx hy (wrap64 h.1 h.2)
theorem y_quo64 (ho : o.op = .binOp .quo t x y t') (hx : ev tm x = some (.int .i64 a)) (hy : ev tm y = some (.int .i64 b)) (h : 0 ≤ a ∧ 0 < b ∧ a ≤ 9223372036854775807) : Yl c tm C F o (.int .i64 (a / b)) :=
  y_quo ho hx hy (by omega) (by
    rw [Int.tdiv_eq_ediv_of_nonneg h.1]
    have h1 := Int.ediv_le_self b h.1
    have h2 : 0 ≤ a / b := Int.ediv_nonneg h.1 (by omega)
    exact wrap64 (by omega) (by omega))
theorem y_rem64 (ho : o.op = .binOp .rem t x y t') (hx : ev tm x = some (.int .i64 a)) (hy : ev tm y = some (.int .i64 b)) (h : 0 ≤ a ∧ 0 < b) : Yl c tm C F o (.int .i64 (a % b)) :=
  y_rem ho hx hy (by omega) (Int.tmod_eq_emod_of_nonneg h.1)
theorem y_eq (ho : o.op = .binOp .eql t x y t') (hx : ev tm x = some (.int k a)) (hy : ev tm y = some (.int k b)) : Yl c tm C F o (.bool (decide (a = b))) :=
  y_bin ho hx hy eqG_int fun w _ => by
    rw [binOp_eql]; simp only [Sem.run_pure]; congr 2
theorem y_ne (ho : o.op = .binOp .neq t x y t') (hx : ev tm x = some (.int k a)) (hy : ev tm y = some (.int k b)) : Yl c tm C F o (.bool (!decide (a = b))) :=
  y_bin ho hx hy eqG_int fun w _ => by rw [binOp_neq]; simp only [Sem.run_pure]; congr 2
theorem y_lt (ho : o.op = .binOp .lss t x y t') (hx : ev tm x = some (.int k a)) (hy : ev tm y = some (.int k b)) : Yl c tm C F o (.bool (decide (a < b))) :=
  y_bin ho hx hy eqG_int fun w _ => by rw [binOp_lss]; rfl
theorem y_le (ho : o.op = .binOp .leq t x y t') (hx : ev tm x = some (.int k a)) (hy : ev tm y = some (.int k b)) : Yl c tm C F o (.bool (decide (a ≤ b))) :=
  y_bin ho hx hy eqG_int fun w _ => by rw [binOp_leq]; rfl
theorem y_gt (ho : o.op = .binOp .gtr t x y t') (hx : ev tm x = some (.int k a)) (hy : ev tm y = some (.int k b)) : Yl c tm C F o (.bool (decide (b < a))) :=
  y_bin ho hx hy eqG_int fun w _ => by rw [binOp_gtr]; rfl
theorem y_ge (ho : o.op = .binOp .geq t x y t') (hx : ev tm x = some (.int k a)) (hy : ev tm y = some (.int k b)) : Yl c tm C F o (.bool (decide (b ≤ a))) :=
  y_bin ho hx hy eqG_int fun w _ => by rw [binOp_geq]; rfl
/-- Bits of two numbers, whatever they are. -/
theorem y_and (ho : o.op = .binOp .and t x y t') (hx : ev tm x = some (.int k a)) (hy : ev tm y = some (.int k b)) (hr : k.wrap ((BitVec.ofInt k.bits a &&& BitVec.ofInt k.bits b).toNat) = r) : Yl c tm C F o (.int k r) :=
  y_bin ho hx hy eqG_int fun w _ => by rw [binOp_and]; simp only [Op.intBits, Sem.run_pure, hr]
theorem y_or (ho : o.op = .binOp .or t x y t') (hx : ev tm x = some (.int k a)) (hy : ev tm y = some (.int k b)) (hr : k.wrap ((BitVec.ofInt k.bits a ||| BitVec.ofInt k.bits b).toNat) = r) : Yl c tm C F o (.int k r) :=
  y_bin ho hx hy eqG_int fun w _ => by rw [binOp_or]; simp only [Op.intBits, Sem.run_pure, hr]
theorem y_xor (ho : o.op = .binOp .xor t x y t') (hx : ev tm x = some (.int k a)) (hy : ev tm y = some (.int k b)) (hr : k.wrap ((BitVec.ofInt k.bits a ^^^ BitVec.ofInt k.bits b).toNat) = r) : Yl c tm C F o (.int k r) :=
  y_bin ho hx hy eqG_int fun w _ => by rw [binOp_xor]; simp only [Op.intBits, Sem.run_pure, hr]
theorem y_shl {yk : IntKind} (ho : o.op = .binOp .shl t x y t') (hx : ev tm x = some (.int k a)) (hy : ev tm y = some (.int yk b)) (hb : 0 ≤ b) (hr : k.wrap (a * 2 ^ (min b.toNat k.bits)) = r) : Yl c tm C F o (.int k r) :=
  y_bin ho hx hy eqG_int fun w _ => by
    rw [binOp_shl]; simp only [Op.shift]; rw [if_neg (by omega)]; simp only [Sem.run_pure, hr]
theorem y_shr {yk : IntKind} (ho : o.op = .binOp .shr t x y t') (hx : ev tm x = some (.int k a)) (hy : ev tm y = some (.int yk b)) (hb : 0 ≤ b) (hr : a.fdiv (2 ^ (min b.toNat k.bits)) = r) : Yl c tm C F o (.int k r) :=
  y_bin ho hx hy eqG_int fun w _ => by
    rw [binOp_shr]; simp only [Op.shift]; rw [if_neg (by omega)]; simp only [Sem.run_pure, hr]
theorem y_neg (ho : o.op = .unOp .neg t x) (hx : ev tm x = some (.int .i64 a)) (h : -9223372036854775807 ≤ a ∧ a ≤ 9223372036854775807) : Yl c tm C F o (.int .i64 (-a)) := fun ac w ha _ => by
  have hw : IntKind.i64.wrap (0 - a) = -a := by rw [wrap64 (by omega) (by omega)]; omega
  simp only [execOp, ho, ha.ev hx, Op.unary, Op.intArith, hw]; rfl
theorem y_conv {k' : IntKind} (ho : o.op = .convert t t' x) (hs : (c.P.underlying t).isSome = true) (hd : c.P.underlying t' = some (.int k')) (hx : ev tm x = some (.int k a)) (hr : k'.wrap a = r) : Yl c tm C F o (.int k' r) := fun ac w ha _ => by
  obtain ⟨d1, h1⟩ := Option.isSome_iff_exists.1 hs
  simp only [execOp, ho, ha.ev hx, convert, Sem.run_bind, run_underlying h1, run_underlying hd, Result.andThen_ok, Conv.intToInt, Sem.run_pure, hr]
end ints
theorem y_not {b : Bool} (ho : o.op = .unOp .not t x) (hx : ev tm x = some (.bool b)) : Yl c tm C F o (.bool (!b)) := fun a w ha _ => by
  simp only [execOp, ho, ha.ev hx, Op.unary]; rfl
theorem eqIn_bool (P : Program) (w : World) (d : Nat) {t : TypeId} (ht : P.underlying t = some .bool) (a b : Bool) : (Op.equalIn (d + 1) t (.bool a) (.bool b)).run P w = .ok (a == b) w := by
  simp [Op.equalIn, run_underlying ht]
theorem equal_of (P : Program) (w : World) {t : TypeId} {r : Bool} (h : ∀ d : Nat, (Op.equalIn (d + 2) t vx vy).run P w = .ok r w) : (Op.equal t vx vy).run P w = .ok r w := h 9998
theorem y_beq {a b : Bool} (ho : o.op = .binOp .eql t x y t') (ht : c.P.underlying t = some .bool) (hx : ev tm x = some (.bool a)) (hy : ev tm y = some (.bool b)) : Yl c tm C F o (.bool (a == b)) :=
  y_bin ho hx hy eqG_bool fun w _ => by
    simp only [binOp, Sem.run_bind, equal_of c.P w (fun d => eqIn_bool c.P w (d + 1) ht a b), Result.andThen_ok, Sem.run_pure]
theorem y_bne {a b : Bool} (ho : o.op = .binOp .neq t x y t') (ht : c.P.underlying t = some .bool) (hx : ev tm x = some (.bool a)) (hy : ev tm y = some (.bool b)) : Yl c tm C F o (.bool (!(a == b))) :=
  y_bin ho hx hy eqG_bool fun w _ => by
    simp only [binOp, Sem.run_bind, equal_of c.P w (fun d => eqIn_bool c.P w (d + 1) ht a b), Result.andThen_ok, Sem.run_pure]
theorem y_func {fn : Fn} {fs cs : Array Operand} (ho : o.op = .makeFunc fn fs cs) {vs : List Value} (hf : fs = #[]) (hc : ∀ a, Ag c.n a tm → cs.map a.eval = vs.toArray) : Yl c tm C F o (.func fn #[] vs.toArray) := fun a w ha _ => by
  subst hf
  simp [execOp, ho, hc a ha, Instr.makeFunc]
theorem y_nilp {a : Addr} (ho : o.op = .nilCheck x) (hx : ev tm x = some (.pointer (some a))) : Yl c tm C F o (.pointer (some a)) := fun ac w ha _ => by
  simp only [execOp, ho, ha.ev hx]; rfl

/-! ### strings -/
def u8 (x : UInt8) : Value := .int .u8 (x.toNat : Int)
def u32 (x : UInt32) : Value := .int .u32 (x.toNat : Int)
def u64 (x : UInt64) : Value := .int .u64 (x.toNat : Int)
def str (l : List UInt8) : Value := .string ⟨l.toArray⟩
theorem str_append (a b : List UInt8) : (⟨a.toArray⟩ ++ ⟨b.toArray⟩ : ByteArray) = ⟨(a ++ b).toArray⟩ := by
  apply ByteArray.ext
  simp
theorem size_str (l : List UInt8) : (⟨l.toArray⟩ : ByteArray).size = l.length := by simp [ByteArray.size]
theorem toList_str (l : List UInt8) : (⟨l.toArray⟩ : ByteArray).toList = l := by
  rw [ByteArray.toList_eq]
theorem y_sadd {a b : List UInt8} (ho : o.op = .binOp .add t x y t') (hx : ev tm x = some (str a)) (hy : ev tm y = some (str b)) (h : a.length + b.length ≤ 9223372036854775807) : Yl c tm C F o (str (a ++ b)) :=
  y_bin ho hx hy eqG_str fun w _ => by
    have hn : ¬ (((⟨a.toArray⟩ : ByteArray).size + (⟨b.toArray⟩ : ByteArray).size : Nat) : Int) > IntKind.i64.max := by rw [size_str, size_str, IntKind.max_i64]; omega
    simp only [str, binOp, Op.stringOp]
    rw [if_neg hn, str_append]; rfl
theorem beq_dec (a b : List UInt8) : (a == b) = decide (a = b) := by rw [Bool.eq_iff_iff]; simp
theorem y_seq {a b : List UInt8} (ho : o.op = .binOp .eql t x y t') (hx : ev tm x = some (str a)) (hy : ev tm y = some (str b)) : Yl c tm C F o (.bool (decide (a = b))) :=
  y_bin ho hx hy eqG_str fun w _ => by
    simp only [str, binOp, Op.stringOp, toList_str, beq_dec]; rfl
theorem y_sne {a b : List UInt8} (ho : o.op = .binOp .neq t x y t') (hx : ev tm x = some (str a)) (hy : ev tm y = some (str b)) : Yl c tm C F o (.bool (!decide (a = b))) :=
  y_bin ho hx hy eqG_str fun w _ => by
    simp only [str, binOp, Op.stringOp, toList_str, beq_dec]; rfl
theorem y_slen {a : List UInt8} {ty : TypeId} (ho : o.op = .call { callee := .builtin .len, args := #[x], argTypes := #[t] }) (ht : c.P.underlying t = some .string) (hx : ev tm x = some (str a)) : Yl c tm C F o (.int .i64 a.length) := fun ac w ha _ => by
  simp only [execOp, ho, resolve, invoke, builtin, Sem.run_bind, Sem.run_pure, Result.andThen_ok, List.map_toArray, List.map_cons, List.map_nil, ha.ev hx]
  simp [Builtin.len_, str, run_underlying ht, goInt, size_str]
theorem y_len {A : Option Addr} {n k e : Nat} (ho : o.op = .call { callee := .builtin .len, args := #[x], argTypes := #[t] }) (ht : c.P.underlying t = some (.slice e)) (hx : ev tm x = some (.slice A n k)) : Yl c tm C F o (.int .i64 n) := fun ac w ha _ => by
  simp only [execOp, ho, resolve, invoke, builtin, Sem.run_bind, Sem.run_pure, Result.andThen_ok, List.map_toArray, List.map_cons, List.map_nil, ha.ev hx]
  simp [Builtin.len_, run_underlying ht, goInt]
theorem y_lenarr {n e : Nat} (ho : o.op = .call { callee := .builtin .len, args := #[x], argTypes := #[t] }) (ht : c.P.underlying t = some (.array n e)) (hx : ev tm x = some v) : Yl c tm C F o (.int .i64 n) := fun ac w ha _ => by
  simp only [execOp, ho, resolve, invoke, builtin, Sem.run_bind, Sem.run_pure, Result.andThen_ok, List.map_toArray, List.map_cons, List.map_nil, ha.ev hx]
  simp [Builtin.len_, run_underlying ht, goInt]
theorem extract_str (l : List UInt8) (a b : Nat) : (⟨l.toArray⟩ : ByteArray).extract a b = ⟨((l.take b).drop a).toArray⟩ := by
  apply ByteArray.ext
  apply Array.ext'
  simp [List.drop_take, List.extract_eq_take_drop]
theorem y_sindex {l : List UInt8} {k : IntKind} {i : Int} (ho : o.op = .index t x y) (ht : c.P.underlying t = some .string) (hx : ev tm x = some (str l)) (hy : ev tm y = some (.int k i)) (h0 : 0 ≤ i) {b : UInt8} (hb : l[i.toNat]? = some b) : Yl c tm C F o (u8 b) := fun ac w ha _ => by
  have hget : (⟨l.toArray⟩ : ByteArray)[i.toNat]? = some b := by
    have hlt : i.toNat < l.length := (List.getElem?_eq_some_iff.1 hb).1
    rw [getElem?_pos _ _ (by rw [size_str]; exact hlt)]
    have := (List.getElem?_eq_some_iff.1 hb).2
    rw [← this]; rfl
  simp only [execOp, ho, ha.ev hx, ha.ev hy, Instr.index, asIntOf, Sem.run_bind, Sem.run_pure, Result.andThen_ok, run_underlying ht, str]
  rw [if_pos h0, hget]; rfl
/-- s[lo:hi] -/
theorem y_sslice {l : List UInt8} {kl kh : IntKind} {a b : Int} {xl xh : Operand} (ho : o.op = .slice t x (some xl) (some xh) none) (ht : c.P.underlying t = some .string) (hx : ev tm x = some (str l)) (hl : ev tm xl = some (.int kl a)) (hh : ev tm xh = some (.int kh b))
    (h : 0 ≤ a ∧ a ≤ b ∧ b ≤ l.length) : Yl c tm C F o (str ((l.take b.toNat).drop a.toNat)) := fun ac w ha _ => by
  simp only [execOp, ho, ha.ev hx, Option.map_some, Option.map_none, ha.ev hl, ha.ev hh, str]
  simp only [Sem.run_bind]
  rw [run_sliceAt_string w t _ _ _ _ ht]
  simp only [Instr.slice, Sem.run_bind, run_underlying ht, Result.andThen_ok, Instr.sliceBounds, Sem.run_pure, Option.isSome_none, Bool.false_eq_true, if_false]
  rw [run_sliceBound w kh b _ _ (by omega) (by rw [size_str]; omega)]
  simp only [Result.andThen_ok]
  rw [run_sliceBound w kl a _ _ h.1 (by omega)]
  simp only [Result.andThen_ok, Sem.run_pure, extract_str]
theorem y_sslice_to {l : List UInt8} {kh : IntKind} {b : Int} {xh : Operand} (ho : o.op = .slice t x none (some xh) none) (ht : c.P.underlying t = some .string) (hx : ev tm x = some (str l)) (hh : ev tm xh = some (.int kh b))
    (h : 0 ≤ b ∧ b ≤ l.length) : Yl c tm C F o (str (l.take b.toNat)) := fun ac w ha _ => by
  simp only [execOp, ho, ha.ev hx, Option.map_some, Option.map_none, ha.ev hh, str]
  simp only [Sem.run_bind]
  rw [run_sliceAt_string w t _ _ _ _ ht]
  simp only [Instr.slice, Sem.run_bind, run_underlying ht, Result.andThen_ok, Instr.sliceBounds, Sem.run_pure, Option.isSome_none, Bool.false_eq_true, if_false]
  rw [run_sliceBound w kh b _ _ (by omega) (by rw [size_str]; omega)]
  simp only [Result.andThen_ok, Sem.run_pure, extract_str, List.drop_zero]
theorem y_sslice_from {l : List UInt8} {kl : IntKind} {a : Int} {xl : Operand} (ho : o.op = .slice t x (some xl) none none) (ht : c.P.underlying t = some .string) (hx : ev tm x = some (str l)) (hl : ev tm xl = some (.int kl a))
    (h : 0 ≤ a ∧ a ≤ l.length) : Yl c tm C F o (str (l.drop a.toNat)) := fun ac w ha _ => by
  simp only [execOp, ho, ha.ev hx, Option.map_some, Option.map_none, ha.ev hl, str]
  simp only [Sem.run_bind]
  rw [run_sliceAt_string w t _ _ _ _ ht]
  simp only [Instr.slice, Sem.run_bind, run_underlying ht, Result.andThen_ok, Instr.sliceBounds, Sem.run_pure, Option.isSome_none, Bool.false_eq_true, if_false]
  rw [run_sliceBound w kl a _ _ h.1 (by rw [size_str]; omega)]
  simp only [Result.andThen_ok, Sem.run_pure, extract_str, size_str, List.take_length]
end
end Go.Sx
namespace Go.Sx
open Go Go.RowKit
set_option linter.unusedVariables false
set_option linter.unusedSimpArgs false

def aggO (P : Program) (t : TypeId) : Option Bool := (P.underlying t).map fun d => match d with | .struct _ => true | .array _ _ => true | _ => false
def szO (P : Program) (t : TypeId) : Option Nat := (P.info? t).map (·.size)
def zO (P : Program) (t : TypeId) : Option Value := (P.info? t).bind (·.zero)
def byO (P : Program) (t : TypeId) : Option Nat := (P.info? t).map (·.bytes)
/-- Where a field begins, if it has cells. -/
def fO (P : Program) (s : TypeId) (f : Nat) : Option Nat := match P.underlying s with
  | some (.struct fields) => match fields[f]? with
    | some fd => match szO P fd.type with
      | some (_ + 1) => some fd.offset
      | _ => none
    | none => none
  | _ => none
def gA (A : Option Addr) : Addr := A.getD default
/-- The cells at an address. -/
def At (w : World) (ad : Addr) (vs : List Value) : Prop := ∀ j u, vs[j]? = some u → w.cell? (ad.add j) = some u
/-- A slice's cells. -/
def Sl (w : World) (A : Option Addr) (xs : List Value) : Prop := xs = [] ∨ A.isSome = true ∧ At w (gA A) xs
theorem add_add (a : Addr) (i j : Nat) : (a.add i).add j = a.add (i + j) := by
  unfold Addr.add
  by_cases hi : i = 0 <;> by_cases hj : j = 0 <;> simp [hi, hj, Nat.add_assoc]
theorem At.sub {w : World} {ad : Addr} {xs vs : List Value} {k : Nat} (h : At w ad xs) (hv : (xs.drop k).take vs.length = vs) : At w (ad.add k) vs := fun j u hj => by
  rw [add_add]
  refine h (k + j) u ?_
  rw [← hv] at hj
  rw [List.getElem?_take] at hj
  split at hj
  · rwa [List.getElem?_drop] at hj
  · cases hj
theorem At.one {w : World} {ad : Addr} {v : Value} : At w ad [v] ↔ w.cell? ad = some v := by
  constructor
  · intro h
    have := h 0 v rfl
    simpa [Addr.add] using this
  · intro h j u hj
    match j, hj with
    | 0, hj => simp at hj; subst hj; simpa [Addr.add] using h
theorem Sl.at_ {w : World} {A : Option Addr} {xs : List Value} (h : Sl w A xs) (hn : xs ≠ []) : At w (gA A) xs := (h.resolve_left hn).2
theorem Sl.some_ {w : World} {A : Option Addr} {xs : List Value} (h : Sl w A xs) (hn : xs ≠ []) : A.isSome = true := (h.resolve_left hn).1
/-- s[l:]'s address. -/
def cutA (A : Option Addr) (cap l sz : Nat) : Option Addr := if cap = l then A else A.map (·.add (l * sz))
theorem gA_add (A : Option Addr) (k : Nat) (h : A.isSome = true) : gA (A.map (·.add k)) = (gA A).add k := by
  cases A with
  | none => cases h
  | some a => rfl
theorem Sl.cut {w : World} {A : Option Addr} {xs vs : List Value} (h : Sl w A xs) {cap l sz n : Nat} (hx : xs.length = n * sz) (hnc : n ≤ cap) (hl : l ≤ n) (hv : (xs.drop (l * sz)).take vs.length = vs) : Sl w (cutA A cap l sz) vs := by
  by_cases hv0 : vs = []
  · exact .inl hv0
  · have hxs : xs ≠ [] := by rintro rfl; simp at hv; exact hv0 (by first | exact hv | exact hv.symm)
    refine .inr ?_
    have hs := h.some_ hxs
    have hat := (h.at_ hxs).sub hv
    unfold cutA
    by_cases e : cap = l
    · have : n = l := by omega
      subst this
      rw [← hx, List.drop_length] at hv
      simp at hv
      exact absurd (by first | exact hv | exact hv.symm) hv0
    · rw [if_neg e]
      exact ⟨by simpa using hs, by rw [gA_add _ _ hs]; exact hat⟩
theorem Sl.take {w : World} {A : Option Addr} {xs vs : List Value} (h : Sl w A xs) (hv : xs.take vs.length = vs) : Sl w A vs := by
  by_cases hv0 : vs = []
  · exact .inl hv0
  · have hxs : xs ≠ [] := by rintro rfl; simp at hv; exact hv0 (by first | exact hv | exact hv.symm)
    have := (h.at_ hxs).sub (k := 0) (by simpa using hv)
    simp only [Addr.add_zero'] at this
    exact .inr ⟨h.some_ hxs, this⟩
/-- An own row that is read. -/
theorem Sl.of_row {w : World} {A : Option Addr} {e : TypeId} {sz n k : Nat} {xs : List Value} (h : w.ownsRow 0 e sz (.slice A n k) n xs) : Sl w A xs := by
  by_cases hx : xs = []
  · exact .inl hx
  · refine .inr ?_
    rcases h.2 with ⟨hv, rfl⟩ | ⟨g, cap, cur, hv, hg, hh, r⟩
    · have h0 := h.1
      simp at h0
      exact absurd h0 hx
    · injection hv with h1
      subst h1
      exact ⟨rfl, h.cells (g := g) rfl⟩
theorem At.box {w : World} {g : Nat} {t : TypeId} {cs : List Value} (h : (Chunk.box g t cs).sat w) : At w ⟨g, 0, none⟩ cs := fun j u hj => by
  have hh : w.heap[g]? = some (.cells cs.toArray t (0, 0)) := h
  rw [Addr.add_lit, Nat.zero_add, cell_of_row w g j _ t _ hh]
  simpa using hj
theorem At.boxo {w : World} {g off : Nat} {t : TypeId} {cs vs : List Value} (h : (Chunk.box g t cs).sat w) (hv : (cs.drop off).take vs.length = vs) : At w ⟨g, off, none⟩ vs := by
  have := (At.box h).sub hv
  rwa [Addr.add_lit, Nat.zero_add] at this

section
variable {P : Program} {w : World} {t : TypeId}
theorem run_isAgg {b : Bool} (h : aggO P t = some b) : (isAgg t).run P w = .ok b w := by
  unfold aggO at h
  cases hu : P.underlying t with
  | none => simp [hu] at h
  | some d =>
    simp only [hu, Option.map_some, Option.some.injEq] at h
    subst h
    unfold isAgg
    rw [Sem.run_bind, run_underlying hu w]
    cases d <;> rfl
theorem run_szO {n : Nat} (h : szO P t = some n) : (sizeOf t).run P w = .ok n w := by
  unfold szO at h
  cases hi : P.info? t with
  | none => simp [hi] at h
  | some i =>
    simp only [hi, Option.map_some, Option.some.injEq] at h
    subst h
    simp [sizeOf, typeInfo, hi]
theorem run_zO {v : Value} (h : zO P t = some v) : (zeroValue t).run P w = .ok v w := by
  unfold zO at h
  cases hi : P.info? t with
  | none => simp [hi] at h
  | some i =>
    simp only [hi, Option.bind_some] at h
    simp [zeroValue, typeInfo, hi, h]
theorem run_load1 {ad : Addr} {v : Value} (h : aggO P t = some false) (hc : w.cell? ad = some v) : (loadVar t ad).run P w = .ok v w := by
  simp [loadVar, run_isAgg h, run_load, hc]
theorem run_loadA {ad : Addr} {vs : List Value} (h : aggO P t = some true) (hs : szO P t = some vs.length) (hc : At w ad vs) : (loadVar t ad).run P w = .ok (.agg vs.toArray) w := by
  simp [loadVar, run_isAgg h, run_szO hs, run_loadCells_list (P := P) w ad vs hc]
end

section
variable {c : Cx} {ops : Array Oper} {Q : Exit → Act → World → Prop} {tm tm' : Env} {C C' : List Chunk} {F F' : World → Prop} {l : List Oper} {o : Oper} {v v' vx vy : Value} {x y z : Operand} {t t' e : TypeId} {d : Nat}
/-- An operation, by what it computes over a world. -/
theorem y_load1 {ad : Addr} (ho : o.op = .load t x) (hg : aggO c.P t = some false) (hx : ev tm x = some (.pointer (some ad))) (hr : ∀ w, St c w C F → w.cell? ad = some v) : Yl c tm C F o v := fun a w ha hs => by
  simp only [execOp, ho, ha.ev hx, Instr.loadAt, Instr.sureAddr, Sem.run_bind, Sem.run_pure, Result.andThen_ok, run_load1 hg (hr w hs)]
theorem y_loadA {ad : Addr} {vs : List Value} (ho : o.op = .load t x) (hg : aggO c.P t = some true) (hs : szO c.P t = some vs.length) (hx : ev tm x = some (.pointer (some ad))) (hr : ∀ w, St c w C F → At w ad vs) : Yl c tm C F o (.agg vs.toArray) := fun a w ha hs' => by
  simp only [execOp, ho, ha.ev hx, Instr.loadAt, Instr.sureAddr, Sem.run_bind, Sem.run_pure, Result.andThen_ok, run_loadA hg hs (hr w hs')]
/-- A cell of an own block. -/
theorem y_lb {g off : Nat} {tt : TypeId} {cs : List Value} (i : Nat) (ho : o.op = .load t x) (hg : aggO c.P t = some false) (hx : ev tm x = some (.pointer (some ⟨g, off, none⟩))) (hC : C[i]? = some (.box g tt cs)) (hv : cs[off]? = some v) : Yl c tm C F o v :=
  y_load1 ho hg hx fun w hs => by
    have hh : w.heap[g]? = some (.cells cs.toArray tt (0, 0)) := hs.get hC
    rw [cell_of_row w g off _ tt _ hh]
    simpa using hv
/-- Cells of an own block. -/
theorem y_lbA {g off : Nat} {tt : TypeId} {cs vs : List Value} (i : Nat) (ho : o.op = .load t x) (hg : aggO c.P t = some true) (hs : szO c.P t = some vs.length) (hx : ev tm x = some (.pointer (some ⟨g, off, none⟩))) (hC : C[i]? = some (.box g tt cs))
    (hv : (cs.drop off).take vs.length = vs) : Yl c tm C F o (.agg vs.toArray) :=
  y_loadA ho hg hs hx fun w hst => At.boxo (hst.get hC) hv
theorem y_fieldp {ad : Addr} {f k : Nat} (ho : o.op = .fieldAddr t x f) (hf : fO c.P t f = some k) (hx : ev tm x = some (.pointer (some ad))) : Yl c tm C F o (.pointer (some (ad.add k))) := fun a w ha hs => by
  unfold fO at hf
  split at hf
  · rename_i fields hu
    split at hf
    · rename_i fd hfd
      split at hf
      · rename_i n hz
        injection hf with hf
        subst hf
        simp only [execOp, ho, ha.ev hx, Instr.fieldAt, Instr.sureAddr, Sem.run_bind, run_underlying hu, Result.andThen_ok, hfd, Sem.run_pure, fieldPlace, run_szO hz]
        rw [if_neg (by omega)]
        simp
      · cases hf
    · cases hf
  · cases hf
/-- A field of an own block. -/
theorem y_fb {g off f k : Nat} (ho : o.op = .fieldAddr t x f) (hf : fO c.P t f = some k) (hx : ev tm x = some (.pointer (some ⟨g, off, none⟩))) : Yl c tm C F o (.pointer (some ⟨g, off + k, none⟩)) :=
  (y_fieldp ho hf hx).to (by rw [Addr.add_lit])
/-- An element's address: of a slice. -/
theorem y_idx {A : Option Addr} {n cap sz : Nat} {k : IntKind} {i : Int} (ho : o.op = .indexAddr t x y) (ht : c.P.underlying t = some (.slice e)) (hz : szO c.P e = some sz) (hx : ev tm x = some (.slice A n cap)) (hy : ev tm y = some (.int k i))
    (h : 0 ≤ i ∧ i < n) (hA : ∀ w, St c w C F → A.isSome = true) : Yl c tm C F o (.pointer (some ((gA A).add (i.toNat * sz)))) := fun a w ha hs => by
  obtain ⟨ad, rfl⟩ := Option.isSome_iff_exists.1 (hA w hs)
  simp only [execOp, ho, ha.ev hx, ha.ev hy, Instr.indexAt, asIntOf, Sem.run_bind, Sem.run_pure, Result.andThen_ok, run_underlying ht]
  rw [if_pos h]
  simp [run_szO hz, gA]
/-- An element's address: of an array in an own block. -/
theorem y_ib {g off n sz : Nat} {k : IntKind} {i : Int} (ho : o.op = .indexAddr t x y) (ht : c.P.underlying t = some (.array n e)) (hz : szO c.P e = some sz) (hx : ev tm x = some (.pointer (some ⟨g, off, none⟩))) (hy : ev tm y = some (.int k i))
    (h : 0 ≤ i ∧ i < n) : Yl c tm C F o (.pointer (some ⟨g, off + i.toNat * sz, none⟩)) := fun a w ha hs => by
  simp only [execOp, ho, ha.ev hx, ha.ev hy, Instr.indexAt, Instr.sureAddr, asIntOf, Sem.run_bind, Sem.run_pure, Result.andThen_ok, run_underlying ht]
  rw [if_pos h]
  simp [run_szO hz, Addr.add_lit]
/-- s[lo:hi], s[:hi], s[lo:] of a slice. -/
theorem y_cut {A : Option Addr} {n cap sz : Nat} {kl kh : IntKind} {a b : Int} {xl xh : Operand} (ho : o.op = .slice t x (some xl) (some xh) none) (ht : c.P.underlying t = some (.slice e)) (hz : szO c.P e = some sz) (hx : ev tm x = some (.slice A n cap))
    (hl : ev tm xl = some (.int kl a)) (hh : ev tm xh = some (.int kh b)) (h : 0 ≤ a ∧ a ≤ b ∧ b ≤ cap) : Yl c tm C F o (.slice (cutA A cap a.toNat sz) (b.toNat - a.toNat) (cap - a.toNat)) := fun ac w ha _ => by
  simp only [execOp, ho, ha.ev hx, Option.map_some, Option.map_none, ha.ev hl, ha.ev hh, Instr.sliceAt, Sem.run_bind, run_underlying ht, Result.andThen_ok, Instr.slice, Instr.sliceBounds, Sem.run_pure, Option.isSome_none, Bool.false_eq_true, if_false]
  rw [run_sliceBound w kh b _ _ (by omega) h.2.2]
  simp only [Result.andThen_ok]
  rw [run_sliceBound w kl a _ _ h.1 (by omega)]
  simp [run_szO hz, cutA]
theorem y_cutto {A : Option Addr} {n cap sz : Nat} {kh : IntKind} {b : Int} {xh : Operand} (ho : o.op = .slice t x none (some xh) none) (ht : c.P.underlying t = some (.slice e)) (hz : szO c.P e = some sz) (hx : ev tm x = some (.slice A n cap))
    (hh : ev tm xh = some (.int kh b)) (h : 0 ≤ b ∧ b ≤ cap) : Yl c tm C F o (.slice A b.toNat cap) := fun ac w ha _ => by
  simp only [execOp, ho, ha.ev hx, Option.map_some, Option.map_none, ha.ev hh, Instr.sliceAt, Sem.run_bind, run_underlying ht, Result.andThen_ok, Instr.slice, Instr.sliceBounds, Sem.run_pure, Option.isSome_none, Bool.false_eq_true, if_false]
  rw [run_sliceBound w kh b _ _ h.1 h.2]
  simp [run_szO hz]
  intro _
  cases A <;> rfl
theorem y_cutfrom {A : Option Addr} {n cap sz : Nat} {kl : IntKind} {a : Int} {xl : Operand} (ho : o.op = .slice t x (some xl) none none) (ht : c.P.underlying t = some (.slice e)) (hz : szO c.P e = some sz) (hx : ev tm x = some (.slice A n cap))
    (hl : ev tm xl = some (.int kl a)) (h : 0 ≤ a ∧ a ≤ n) : Yl c tm C F o (.slice (cutA A cap a.toNat sz) (n - a.toNat) (cap - a.toNat)) := fun ac w ha _ => by
  simp only [execOp, ho, ha.ev hx, Option.map_some, Option.map_none, ha.ev hl, Instr.sliceAt, Sem.run_bind, run_underlying ht, Result.andThen_ok, Instr.slice, Instr.sliceBounds, Sem.run_pure, Option.isSome_none, Bool.false_eq_true, if_false]
  rw [run_sliceBound w kl a _ _ h.1 h.2]
  simp [run_szO hz, cutA]
/-- arr[:] of an own block. -/
theorem y_cutarr {g off n : Nat} (ho : o.op = .slice t x none none none) (ht : c.P.underlying t = some (.array n e)) (hz : (szO c.P e).isSome = true) (hn : n ≠ 0) (hx : ev tm x = some (.pointer (some ⟨g, off, none⟩))) :
    Yl c tm C F o (.slice (some ⟨g, off, none⟩) n n) := fun ac w ha _ => by
  obtain ⟨sz, hz⟩ := Option.isSome_iff_exists.1 hz
  simp only [execOp, ho, ha.ev hx, Option.map_none, Instr.sliceAt, Sem.run_bind, run_underlying ht, Result.andThen_ok, Instr.sureAddr, Instr.sliceBounds, Sem.run_pure, run_szO hz]
  rw [if_neg hn]
  simp [Addr.add]
/-- string(b) -/
theorem y_b2s {A : Option Addr} {k : Nat} {bs : List UInt8} (ho : o.op = .convert t t' x) (ht : c.P.underlying t = some (.slice e)) (he : c.P.underlying e = some (.int .u8)) (ht' : c.P.underlying t' = some .string) (hx : ev tm x = some (.slice A bs.length k))
    (hr : ∀ w, St c w C F → Sl w A (bs.map u8)) : Yl c tm C F o (str bs) := fun ac w ha hs => by
  simp only [execOp, ho, ha.ev hx, Sem.run_bind]
  rcases hr w hs with h0 | ⟨h1, h2⟩
  · have hb : bs = [] := by simpa using h0
    subst hb
    rw [run_convert_bytes_string w t t' e A _ k ht he ht']
    cases A with
    | none => simp [Conv.bytesToString, str, ByteArray.empty, ByteArray.emptyWithCapacity]; rfl
    | some ad => simp [Conv.bytesToString, loadCells, loadCellsFrom, str, ByteArray.empty, ByteArray.emptyWithCapacity]; rfl
  · obtain ⟨ad, rfl⟩ := Option.isSome_iff_exists.1 h1
    rw [run_convert_bytes_back w t t' e ad k bs ht he ht' (by
      intro j hj
      exact h2 j _ (by simp [List.getElem?_eq_getElem hj, u8]))]
    rfl

/-! ### operations that make or write memory -/
/-- An operation that leaves a world: by what it does to the state. -/
theorem J.ef {S' : Prop} (hg : o.guard = none) (hd : o.dst = some d) (hn : Nat.ble (d + 1) c.n = true)
    (h : ∀ a w, Ag c.n a tm → St c w C F → ∃ v w', (execOp a.eval o).run c.P w = .ok (.value v) w' ∧ ∃ C' F', St c w' C' F' ∧ J c ops Q l ((d, v) :: tm) C' F') : J c ops Q (o :: l) tm C F := by
  intro a w ha hs
  obtain ⟨v, w', hr, C', F', hs', hj⟩ := h a w ha hs
  refine wpList_plain hg fun K hK => ?_
  unfold Oper.wp
  rw [hr, Oper.upon_value, hd]
  exact hK _ _ (hj _ w' (ha.put (Nat.le_of_ble_eq_true hn) v) hs')
theorem J.eu (hg : o.guard = none) (hd : o.dst = none)
    (h : ∀ a w, Ag c.n a tm → St c w C F → ∃ w', (execOp a.eval o).run c.P w = .ok .skip w' ∧ ∃ C' F', St c w' C' F' ∧ J c ops Q l tm C' F') : J c ops Q (o :: l) tm C F := by
  intro a w ha hs
  obtain ⟨w', hr, C', F', hs', hj⟩ := h a w ha hs
  refine wpList_plain hg fun K hK => ?_
  unfold Oper.wp
  rw [hr, Oper.upon_skip, hd]
  exact hK _ _ (hj _ w' ha hs')
/-- A store of a cell: its value is of one cell. -/
theorem box_new (w : World) (t : TypeId) (cs : List Value) : (Chunk.box w.heap.size t cs).sat (w.alloc (.cells cs.toArray t)) := heap_alloc_new w _
theorem J.box {cs : List Value} (ho : o.op = .box t x) (hg : o.guard = none) (hd : o.dst = some d) (hn : Nat.ble (d + 1) c.n = true) (hx : ev tm x = some v) (hc : v.cells = cs.toArray)
    (h : ∀ g, J c ops Q l ((d, .pointer (some ⟨g, 0, none⟩)) :: tm) (.box g t cs :: C) F) : J c ops Q (o :: l) tm C F :=
  J.ef (S' := True) hg hd hn fun a w ha hs => ⟨.pointer (some ⟨w.heap.size, 0, none⟩), w.alloc (.cells cs.toArray t), by
      simp only [execOp, ho, ha.ev hx, Instr.box, newVar, newRow, newObj, hc, Sem.run_bind]; rfl,
    _, _, hs.push (Fr.alloc _ _ _) (box_new w t cs) (fun k hk => by simp only [Chunk.own, Option.some.injEq] at hk; omega), h _⟩
theorem J.alloc {cs : List Value} (ho : o.op = .alloc t) (hg : o.guard = none) (hd : o.dst = some d) (hn : Nat.ble (d + 1) c.n = true) (hz : zO c.P t = some v) (hc : v.cells = cs.toArray)
    (h : ∀ g, J c ops Q l ((d, .pointer (some ⟨g, 0, none⟩)) :: tm) (.box g t cs :: C) F) : J c ops Q (o :: l) tm C F :=
  J.ef (S' := True) hg hd hn fun a w ha hs => ⟨.pointer (some ⟨w.heap.size, 0, none⟩), w.alloc (.cells cs.toArray t), by
      simp only [execOp, ho, Instr.alloc, newVar, newRow, newObj, hc, Sem.run_bind, run_zO hz, Result.andThen_ok]; rfl,
    _, _, hs.push (Fr.alloc _ _ _) (box_new w t cs) (fun k hk => by simp only [Chunk.own, Option.some.injEq] at hk; omega), h _⟩
/-- What cells become by a store of vs from off on. -/
def spl (cs : List Value) (off : Nat) (vs : List Value) : List Value := cs.take off ++ vs ++ cs.drop (off + vs.length)
theorem run_storeB {P : Program} {w : World} {g off : Nat} {tt : TypeId} {cs vs : List Value} (hz : szO P t = some vs.length) (hv : v.cells = vs.toArray) (hs : (Chunk.box g tt cs).sat w) (hl : off + vs.length ≤ cs.length) (h1 : ∀ u ∈ vs, u.oneCell' = true) :
    (storeVar t ⟨g, off, none⟩ v).run P w = .ok () (w.setRow g (spl cs off vs).toArray) := by
  have hh : w.heap[g]? = some (.cells cs.toArray tt (0, 0)) := hs
  have := run_storeCells_at P g off tt vs 0 cs.toArray w hh (by simpa using hl) h1
  simp [storeVar, run_szO hz, hv, this, spl]
theorem Fr.setRow (w : World) (g : Nat) (cur : Array Value) : Fr (fun k => some g = some k) w (w.setRow g cur) :=
  ⟨rfl, rfl, rfl, by simp, fun k _ hn => setRow_other w g k cur (fun e => hn (by rw [e]))⟩
theorem J.store {g off : Nat} {tt : TypeId} {cs vs cs' : List Value} (i : Nat) (ho : o.op = .store t x y) (hg : o.guard = none) (hd : o.dst = none) (hx : ev tm x = some (.pointer (some ⟨g, off, none⟩))) (hy : ev tm y = some v) (hC : C[i]? = some (.box g tt cs))
    (hv : v.cells = vs.toArray) (hz : szO c.P t = some vs.length) (hl : off + vs.length ≤ cs.length) (h1 : ∀ u ∈ vs, u.oneCell' = true) (hcs : spl cs off vs = cs')
    (h : J c ops Q l tm (C.set i (.box g tt cs')) F) : J c ops Q (o :: l) tm C F :=
  J.eu hg hd fun a w ha hs => by
    have hsat := hs.get hC
    have hh : w.heap[g]? = some (.cells cs.toArray tt (0, 0)) := hsat
    refine ⟨w.setRow g cs'.toArray, ?_, _, _, hs.upd hC (y := .box g tt cs') (Fr.setRow w g _) (setRow_heap w g _ _ tt _ hh) (fun k hk => .inl hk), h⟩
    rw [← hcs]
    simp only [execOp, ho, ha.ev hx, ha.ev hy, Instr.storeAt, Instr.sureAddr, Sem.run_bind, Sem.run_pure, Result.andThen_ok, run_storeB hz hv hsat hl h1]
end
end Go.Sx
namespace Go.Sx
open Go Go.RowKit
set_option linter.unusedVariables false
set_option linter.unusedSimpArgs false

/-- How a call ends: with a value v i, chunks C1 i that are the caller's now, facts G i that stay. -/
def Post (X M : Nat → Prop) (w : World) {ι : Type} (Φ : ι → Prop) (v : ι → Value) (C1 : ι → List Chunk) (G : ι → World → Prop) : Ending → World → Prop := fun e w' =>
  ∃ i, Φ i ∧ e = .returned (v i) ∧ Fr M w w' ∧ (∀ x ∈ C1 i, x.sat w') ∧ (∀ x ∈ C1 i, ∀ k, x.own = some k → w.heap.size ≤ k ∨ M k) ∧ Apart (C1 i) ∧ SF (fun k => X k ∨ inC (C1 i) k) w' (G i)
def FnSpec (P : Program) (Gl : World → Prop) (f : FuncId) (args : List Value) (Cin : List Chunk) (F : World → Prop) {ι : Type} (Φ : ι → Prop) (v : ι → Value) (C1 : ι → List Chunk) (G : ι → World → Prop) : Prop :=
  ∀ n X M w, St ⟨n, P, X, M, w, Gl⟩ w Cin F → Calls P f args.toArray w (Post X M w Φ v C1 G)
/-- A function that hands back a value, and changes nothing. -/
abbrev PureFn (P : Program) (Gl : World → Prop) (f : FuncId) (args : List Value) (F : World → Prop) (v : Value) : Prop :=
  FnSpec P Gl f args [] F (ι := Unit) (fun _ => True) (fun _ => v) (fun _ => []) (fun _ _ => True)
def callable (P : Program) (f : FuncId) : Bool := match P.funcs[f]? with
  | some fn => !(fn.name == "runtime.NumGoroutine") && !fn.body.isNone
  | none => false
theorem run_program' {P : Program} {w : World} : program.run P w = .ok P w := rfl
theorem run_callFunc {P : Program} {w : World} {f : FuncId} {args : Array Value} (h : callable P f = true) : (callFunc f args).run P w = .ok (.enter f args) w := by
  unfold callable at h
  cases hf : P.funcs[f]? with
  | none => simp [hf] at h
  | some fn =>
    simp only [hf, Bool.and_eq_true, Bool.not_eq_true'] at h
    simp only [callFunc, Sem.run_bind, run_program', Result.andThen_ok, hf]
    rw [if_neg (by rw [h.1]; simp), if_neg (by rw [h.2]; simp)]
    rfl
def evs (tm : Env) : List Operand → Option (List Value)
  | [] => some []
  | x :: r => match ev tm x, evs tm r with
    | some v, some vs => some (v :: vs)
    | _, _ => none
theorem Ag.evs {n : Nat} {a : Act} {tm : Env} {xs : List Operand} {vs : List Value} (h : Ag n a tm) (hx : evs tm xs = some vs) : xs.map a.eval = vs := by
  induction xs generalizing vs with
  | nil => cases hx; rfl
  | cons x r ih =>
    simp only [Sx.evs] at hx
    split at hx
    · rename_i v us h1 h2
      injection hx with hx
      subst hx
      rw [List.map_cons, h.ev h1, ih h2]
    · cases hx
section
variable {c : Cx} {ops : Array Oper} {Q : Exit → Act → World → Prop} {tm tm' : Env} {C C' Cin Cr : List Chunk} {F F' : World → Prop} {l : List Oper} {o : Oper} {v vx vy : Value} {x y z : Operand} {t t' e : TypeId} {d : Nat}
  {ι : Type} {Φ : ι → Prop} {vi : ι → Value} {C1 : ι → List Chunk} {G : ι → World → Prop}
theorem inC_append {A B : List Chunk} {k : Nat} : inC (A ++ B) k ↔ inC A k ∨ inC B k := by
  constructor
  · rintro ⟨x, hx, he⟩
    rcases List.mem_append.1 hx with h | h
    · exact .inl ⟨x, h, he⟩
    · exact .inr ⟨x, h, he⟩
  · rintro (⟨x, hx, he⟩ | ⟨x, hx, he⟩)
    · exact ⟨x, List.mem_append_left _ hx, he⟩
    · exact ⟨x, List.mem_append_right _ hx, he⟩
theorem St.enter {w : World} (n : Nat) (h : St c w (Cin ++ Cr) F) : St ⟨n, c.P, fun k => c.X k ∨ inC (Cin ++ Cr) k, inC Cin, w, c.Gl⟩ w Cin F := by
  refine ⟨fun k hk => ?_, fun k hk => .inr (inC_append.2 (.inl hk)), Fr.refl _ _, fun x hx => h.sat x (List.mem_append_left _ hx), fun x hx k hk => .inr ⟨x, hx, hk⟩, (List.pairwise_append.1 h.nd).1, h.sf.less fun k hk => ?_⟩
  · rcases hk with hk | ⟨x, hx, he⟩
    · exact Nat.lt_of_lt_of_le (h.bX k hk) h.fr.size
    · exact Chunk.lt (h.sat x hx) k he
  · rcases hk with (hk | hk) | hk
    · exact .inl hk
    · exact .inr hk
    · exact .inr (inC_append.2 (.inl hk))
theorem St.leave {w w' : World} (h : St c w (Cin ++ Cr) F) {D : List Chunk} {H : World → Prop} (hfr : Fr (inC Cin) w w') (hsat : ∀ x ∈ D, x.sat w') (hloc : ∀ x ∈ D, ∀ k, x.own = some k → w.heap.size ≤ k ∨ inC Cin k) (hnd : Apart D)
    (hsf : SF (fun k => (c.X k ∨ inC (Cin ++ Cr) k) ∨ inC D k) w' H) : St c w' (D ++ Cr) fun w => F w ∧ H w := by
  obtain ⟨h1, h2, h3⟩ := List.pairwise_append.1 h.nd
  have hr : ∀ x ∈ Cr, x.sat w' := fun x hx => Chunk.move (h.sat x (List.mem_append_right _ hx)) fun k hk => hfr.block k (Chunk.lt (h.sat x (List.mem_append_right _ hx)) k hk) (fun ⟨y, hy, he⟩ => h3 y hy x hx k he hk)
  have hst : St c w' (D ++ Cr) F := by
    refine h.step hfr (fun k _ hk => inC_append.2 (.inl hk)) (fun x hx => ?_) (fun x hx k hk => ?_) (List.pairwise_append.2 ⟨hnd, h2, fun x hx y hy k hk he => ?_⟩)
    · rcases List.mem_append.1 hx with hx | hx
      · exact hsat x hx
      · exact hr x hx
    · rcases List.mem_append.1 hx with hx | hx
      · rcases hloc x hx k hk with h' | h'
        · exact .inr h'
        · exact .inl (inC_append.2 (.inl h'))
      · exact .inl (inC_append.2 (.inr ⟨x, hx, hk⟩))
    · have hlt := Chunk.lt (h.sat y (List.mem_append_right _ hy)) k he
      rcases hloc x hx k hk with h' | ⟨z, hz, hze⟩
      · omega
      · exact h3 z hz y hy k hze he
  refine ⟨hst.bX, hst.mX, hst.fr, hst.sat, hst.loc, hst.nd, (SF.and hst.sf (hsf.less fun k hk => ?_)).imp fun w h => ⟨h.1.1, h.1.2, h.2⟩⟩
  rcases hk with hk | hk
  · exact .inl (.inl hk)
  · rcases inC_append.1 hk with hk | hk
    · exact .inr hk
    · exact .inl (.inr (inC_append.2 (.inr hk)))
/-- The callee may read what the caller owns. -/
theorem St.enterR {w : World} (n : Nat) (h : St c w (Cin ++ Cr) F) : St ⟨n, c.P, fun k => (c.X k ∧ ¬ inC Cr k) ∨ inC Cin k, inC Cin, w, c.Gl⟩ w Cin (fun w => F w ∧ ∀ x ∈ Cr, x.sat w) := by
  obtain ⟨h1, h2, h3⟩ := List.pairwise_append.1 h.nd
  refine ⟨fun k hk => ?_, fun k hk => .inr hk, Fr.refl _ _, fun x hx => h.sat x (List.mem_append_left _ hx), fun x hx k hk => .inr ⟨x, hx, hk⟩, h1, fun w' hw => ?_⟩
  · rcases hk with ⟨hk, _⟩ | ⟨x, hx, he⟩
    · exact Nat.lt_of_lt_of_le (h.bX k hk) h.fr.size
    · exact Chunk.lt (h.sat x (List.mem_append_left _ hx)) k he
  · have h4 := h.sf w' (hw.mono fun k hk => by
      rcases hk with (⟨hk, _⟩ | hk) | hk
      · exact .inl hk
      · exact .inr (inC_append.2 (.inl hk))
      · exact .inr (inC_append.2 (.inl hk)))
    refine ⟨h4.1, h4.2, fun x hx => Chunk.move (h.sat x (List.mem_append_right _ hx)) fun k hk => hw.block k (Chunk.lt (h.sat x (List.mem_append_right _ hx)) k hk) (fun hX => ?_)⟩
    have hno : ∀ k', inC Cin k' → x.own ≠ some k' := fun k' ⟨y, hy, he⟩ hxk => h3 y hy x hx k' he hxk
    rcases hX with (⟨_, hn⟩ | hX) | hX
    · exact hn ⟨x, hx, hk⟩
    · exact hno k hX hk
    · exact hno k hX hk
theorem St.leaveR {w w' : World} (h : St c w (Cin ++ Cr) F) {D : List Chunk} (hfr : Fr (inC Cin) w w') (hsat : ∀ x ∈ D, x.sat w') (hloc : ∀ x ∈ D, ∀ k, x.own = some k → w.heap.size ≤ k ∨ inC Cin k) (hnd : Apart D) : St c w' (D ++ Cr) F :=
  (h.leave (H := fun _ => True) hfr hsat hloc hnd fun _ _ => trivial).imp fun w h => h.1
theorem ck {C : List Chunk} {F : World → Prop} {w : World} {x : Chunk} (k : Nat) (hk : C[k]? = some x) (h : F w ∧ ∀ x ∈ C, x.sat w) : x.sat w := h.2 x (List.mem_of_getElem? hk)
theorem J.enterR {f : FuncId} {args : List Value} (hg : o.guard = none) (hd : o.dst = some d) (hn : Nat.ble (d + 1) c.n = true)
    (hr : ∀ a w, Ag c.n a tm → (execOp a.eval o).run c.P w = .ok (.enter f args.toArray) w) (hC : C = Cin ++ Cr) (hs : FnSpec c.P c.Gl f args Cin (fun w => F w ∧ ∀ x ∈ Cr, x.sat w) Φ vi C1 G)
    (h : ∀ i, Φ i → J c ops Q l ((d, vi i) :: tm) (C1 i ++ Cr) F) : J c ops Q (o :: l) tm C F := by
  subst hC
  intro a w ha hst
  refine wpList_plain hg fun K hK => ?_
  unfold Oper.wp
  rw [hr a w ha, Oper.upon_enter]
  refine (hs c.n _ _ w (hst.enterR c.n)).mono ?_
  rintro e w' ⟨i, hi, rfl, hfr, hsat, hloc, hnd, hsf⟩
  rw [hd]
  exact hK _ _ (h i hi _ w' (ha.put (Nat.le_of_ble_eq_true hn) _) (hst.leaveR hfr hsat hloc hnd))
theorem run_call {f : FuncId} {xs : Array Operand} {ats : Array TypeId} {args : List Value} (ho : o.op = .call { callee := .value (.func f), args := xs, argTypes := ats }) (hf : callable c.P f = true) (hx : evs tm xs.toList = some args) :
    ∀ a w, Ag c.n a tm → (execOp a.eval o).run c.P w = .ok (.enter f args.toArray) w := fun a w ha => by
  have he : xs.map a.eval = args.toArray := by
    apply Array.ext'
    simpa using ha.evs hx
  simp only [execOp, ho, resolve, he, Sem.run_bind]
  simp only [Act.eval, Deferred.ofValue, Sem.run_pure, Result.andThen_ok, invoke, Array.append_empty, Array.empty_append]
  exact run_callFunc hf
theorem run_callc {f : FuncId} {xs : Array Operand} {ats : Array TypeId} {args caps : List Value} (ho : o.op = .call { callee := .value z, args := xs, argTypes := ats }) (hz : ev tm z = some (.func (.func f) #[] caps.toArray)) (hf : callable c.P f = true) (hx : evs tm xs.toList = some args) :
    ∀ a w, Ag c.n a tm → (execOp a.eval o).run c.P w = .ok (.enter f (args ++ caps).toArray) w := fun a w ha => by
  have he : xs.map a.eval = args.toArray := by
    apply Array.ext'
    simpa using ha.evs hx
  have hap : args.toArray ++ caps.toArray = (args ++ caps).toArray := by simp
  simp only [execOp, ho, resolve, he, Sem.run_bind, ha.ev hz]
  simp only [Deferred.ofValue, Sem.run_pure, Result.andThen_ok, invoke, Array.empty_append, hap]
  exact run_callFunc hf
/-- A call that reads own chunks; no facts come of it. -/
theorem J.callR {f : FuncId} {xs : Array Operand} {ats : Array TypeId} {args : List Value} (ho : o.op = .call { callee := .value (.func f), args := xs, argTypes := ats }) (hg : o.guard = none) (hd : o.dst = some d) (hn : Nat.ble (d + 1) c.n = true)
    (hf : callable c.P f = true) (hx : evs tm xs.toList = some args) (hC : C = Cin ++ Cr) (hs : FnSpec c.P c.Gl f args Cin (fun w => F w ∧ ∀ x ∈ Cr, x.sat w) Φ vi C1 G)
    (h : ∀ i, Φ i → J c ops Q l ((d, vi i) :: tm) (C1 i ++ Cr) F) : J c ops Q (o :: l) tm C F :=
  J.enterR hg hd hn (run_call ho hf hx) hC hs h
theorem J.callcR {f : FuncId} {xs : Array Operand} {ats : Array TypeId} {args caps : List Value} (ho : o.op = .call { callee := .value z, args := xs, argTypes := ats }) (hg : o.guard = none) (hd : o.dst = some d) (hn : Nat.ble (d + 1) c.n = true)
    (hz : ev tm z = some (.func (.func f) #[] caps.toArray)) (hf : callable c.P f = true) (hx : evs tm xs.toList = some args) (hC : C = Cin ++ Cr) (hs : FnSpec c.P c.Gl f (args ++ caps) Cin (fun w => F w ∧ ∀ x ∈ Cr, x.sat w) Φ vi C1 G)
    (h : ∀ i, Φ i → J c ops Q l ((d, vi i) :: tm) (C1 i ++ Cr) F) : J c ops Q (o :: l) tm C F :=
  J.enterR hg hd hn (run_callc ho hz hf hx) hC hs h
theorem J.enter {f : FuncId} {args : List Value} (hg : o.guard = none) (hd : o.dst = some d) (hn : Nat.ble (d + 1) c.n = true)
    (hr : ∀ a w, Ag c.n a tm → (execOp a.eval o).run c.P w = .ok (.enter f args.toArray) w) (hs : FnSpec c.P c.Gl f args Cin F Φ vi C1 G) (hC : C = Cin ++ Cr)
    (h : ∀ i, Φ i → J c ops Q l ((d, vi i) :: tm) (C1 i ++ Cr) fun w => F w ∧ G i w) : J c ops Q (o :: l) tm C F := by
  subst hC
  intro a w ha hst
  refine wpList_plain hg fun K hK => ?_
  unfold Oper.wp
  rw [hr a w ha, Oper.upon_enter]
  refine (hs c.n _ _ w (hst.enter c.n)).mono ?_
  rintro e w' ⟨i, hi, rfl, hfr, hsat, hloc, hnd, hsf⟩
  rw [hd]
  exact hK _ _ (h i hi _ w' (ha.put (Nat.le_of_ble_eq_true hn) _) (hst.leave hfr hsat hloc hnd hsf))
theorem J.call {f : FuncId} {xs : Array Operand} {ats : Array TypeId} {args : List Value} (ho : o.op = .call { callee := .value (.func f), args := xs, argTypes := ats }) (hg : o.guard = none) (hd : o.dst = some d) (hn : Nat.ble (d + 1) c.n = true)
    (hf : callable c.P f = true) (hx : evs tm xs.toList = some args) (hs : FnSpec c.P c.Gl f args Cin F Φ vi C1 G) (hC : C = Cin ++ Cr)
    (h : ∀ i, Φ i → J c ops Q l ((d, vi i) :: tm) (C1 i ++ Cr) fun w => F w ∧ G i w) : J c ops Q (o :: l) tm C F :=
  J.enter hg hd hn (fun a w ha => by
    have he : xs.map a.eval = args.toArray := by
      apply Array.ext'
      simpa using ha.evs hx
    simp only [execOp, ho, resolve, he, Sem.run_bind]
    simp only [Act.eval, Deferred.ofValue, Sem.run_pure, Result.andThen_ok, invoke, Array.append_empty, Array.empty_append]
    exact run_callFunc hf) hs hC h
/-- A call through a function value. -/
theorem J.callc {f : FuncId} {xs : Array Operand} {ats : Array TypeId} {args caps : List Value} (ho : o.op = .call { callee := .value z, args := xs, argTypes := ats }) (hg : o.guard = none) (hd : o.dst = some d) (hn : Nat.ble (d + 1) c.n = true)
    (hz : ev tm z = some (.func (.func f) #[] caps.toArray)) (hf : callable c.P f = true) (hx : evs tm xs.toList = some args) (hs : FnSpec c.P c.Gl f (args ++ caps) Cin F Φ vi C1 G) (hC : C = Cin ++ Cr)
    (h : ∀ i, Φ i → J c ops Q l ((d, vi i) :: tm) (C1 i ++ Cr) fun w => F w ∧ G i w) : J c ops Q (o :: l) tm C F :=
  J.enter hg hd hn (fun a w ha => by
    have he : xs.map a.eval = args.toArray := by
      apply Array.ext'
      simpa using ha.evs hx
    have hap : args.toArray ++ caps.toArray = (args ++ caps).toArray := by simp
    simp only [execOp, ho, resolve, he, Sem.run_bind, ha.ev hz]
    simp only [Deferred.ofValue, Sem.run_pure, Result.andThen_ok, invoke, Array.empty_append, hap]
    exact run_callFunc hf) hs hC h
/-- A call of a function that hands back a value. -/
theorem J.callv {f : FuncId} {xs : Array Operand} {ats : Array TypeId} {args : List Value} (ho : o.op = .call { callee := .value (.func f), args := xs, argTypes := ats }) (hg : o.guard = none) (hd : o.dst = some d) (hn : Nat.ble (d + 1) c.n = true)
    (hf : callable c.P f = true) (hx : evs tm xs.toList = some args) (hs : PureFn c.P c.Gl f args (fun w => F w ∧ ∀ x ∈ C, x.sat w) v) (h : J c ops Q l ((d, v) :: tm) C F) : J c ops Q (o :: l) tm C F :=
  J.callR (Cin := []) (Cr := C) ho hg hd hn hf hx rfl hs fun _ _ => h
theorem J.callcv {f : FuncId} {xs : Array Operand} {ats : Array TypeId} {args caps : List Value} (ho : o.op = .call { callee := .value z, args := xs, argTypes := ats }) (hg : o.guard = none) (hd : o.dst = some d) (hn : Nat.ble (d + 1) c.n = true)
    (hz : ev tm z = some (.func (.func f) #[] caps.toArray)) (hf : callable c.P f = true) (hx : evs tm xs.toList = some args) (hs : PureFn c.P c.Gl f (args ++ caps) (fun w => F w ∧ ∀ x ∈ C, x.sat w) v) (h : J c ops Q l ((d, v) :: tm) C F) : J c ops Q (o :: l) tm C F :=
  J.callcR (Cin := []) (Cr := C) ho hg hd hn hz hf hx rfl hs fun _ _ => h
theorem PureFn.to {P : Program} {Gl : World → Prop} {f : FuncId} {args : List Value} {u : Value} (h : PureFn P Gl f args F v) (e : v = u) : PureFn P Gl f args F u := e ▸ h
/-! ### a function's beginning and its end -/
theorem FnSpec.intro {P : Program} {Gl : World → Prop} {f : FuncId} {fn : Func} {code : Code} {args : List Value} {n : Nat} (hf : P.funcs[f]? = some fn) (hb : fn.body = some code) (hn : fn.ntmps = n) (hl : Nat.ble args.length n = true)
    (h : ∀ X M w, JC ⟨n, P, X, M, w, Gl⟩ code (bodyPost P fn (Post X M w Φ vi C1 G)) (mkEnv 0 args) Cin F) : FnSpec P Gl f args Cin F Φ vi C1 G := by
  intro n' X M w hst
  refine calls_of_wp hf hb ?_
  rw [hn]
  exact h X M w _ w (Ag.start args n (Nat.le_of_ble_eq_true hl)) ⟨hst.bX, hst.mX, hst.fr, hst.sat, hst.loc, hst.nd, hst.sf⟩
theorem Post.of_st {w : World} (h : St c w C F) (i : ι) (hi : Φ i) (hs : (C1 i).Sublist C) (hG : ∀ w, F w → G i w) : Post c.X c.M c.w0 Φ vi C1 G (.returned (vi i)) w := by
  have h' := h.forget hs
  exact ⟨i, hi, rfl, h'.fr, h'.sat, h'.loc, h'.nd, h'.sf.imp fun w h => hG w h.2⟩
/-- The end of a function that hands back a value. -/
theorem Post.pure {w : World} (h : St c w C F) : Post c.X c.M c.w0 (ι := Unit) (fun _ => True) (fun _ => v) (fun _ => []) (fun _ _ => True) (.returned v) w := Post.of_st h () trivial (List.nil_sublist _) fun _ _ => trivial

/-- What a result variable reads as. -/
def rvS (tmps : Array Value) : ResultVar → Sem Value
  | .tmp t => pure (tmps.getD t undef)
  | .cell p t => do loadVar t (← asAddr (tmps.getD p undef))
theorem results_rv (fn : Func) (tmps : Array Value) : results fn tmps = (do let vs ← fn.results.mapM (rvS tmps); pure (if h : vs.size = 1 then vs[0] else .tuple vs)) := rfl
def Rv (c : Cx) (tm : Env) (C : List Chunk) (F : World → Prop) (r : ResultVar) (v : Value) : Prop :=
  ∀ a w, Ag c.n a tm → St c w C F → (rvS a.tmps r).run c.P w = .ok v w
theorem r_tmp {t : Tmp} (h : lk tm t = some v) : Rv c tm C F (.tmp t) v := fun a w ha hs => by
  simp only [rvS, ha.get t v h]; rfl
theorem r_cellA {p : Tmp} {g : Nat} {tt : TypeId} {cs : List Value} (i : Nat) (h : lk tm p = some (.pointer (some ⟨g, 0, none⟩))) (hC : C[i]? = some (.box g tt cs)) (ha : aggO c.P t = some true) (hz : szO c.P t = some cs.length) : Rv c tm C F (.cell p t) (.agg cs.toArray) := fun a w hag hs => by
  simp only [rvS, hag.get p _ h, asAddr, Sem.run_bind, Sem.run_pure, Result.andThen_ok, run_loadA ha hz (At.box (hs.get hC))]
theorem r_cell1 {p : Tmp} {g : Nat} {tt : TypeId} (i : Nat) (h : lk tm p = some (.pointer (some ⟨g, 0, none⟩))) (hC : C[i]? = some (.box g tt [v])) (ha : aggO c.P t = some false) : Rv c tm C F (.cell p t) v := fun a w hag hs => by
  have hc : w.cell? ⟨g, 0, none⟩ = some v := At.one.1 (At.box (hs.get hC))
  simp only [rvS, hag.get p _ h, asAddr, Sem.run_bind, Sem.run_pure, Result.andThen_ok, run_load1 ha hc]
variable {P : Program} {fn : Func} {R : Ending → World → Prop} {r1 r2 r3 r4 : ResultVar} {v1 v2 v3 v4 : Value}
theorem ret0 (hr : fn.results = #[]) (hR : ∀ w, St c w C F → R (.returned (.tuple #[])) w) : JQ c (bodyPost c.P fn R) .ret tm C F := fun a w ha hs =>
  ⟨ha.defers, _, results_none hr a.tmps c.P w, hR w hs⟩
theorem ret1 (hr : fn.results = #[r1]) (h1 : Rv c tm C F r1 v1) (hR : ∀ w, St c w C F → R (.returned v1) w) : JQ c (bodyPost c.P fn R) .ret tm C F := fun a w ha hs =>
  ⟨ha.defers, v1, by
    have e1 := h1 a w ha hs
    rw [results_rv, hr]; simp [e1], hR w hs⟩
theorem ret2 (hr : fn.results = #[r1, r2]) (h1 : Rv c tm C F r1 v1) (h2 : Rv c tm C F r2 v2) (hR : ∀ w, St c w C F → R (.returned (.tuple #[v1, v2])) w) : JQ c (bodyPost c.P fn R) .ret tm C F := fun a w ha hs =>
  ⟨ha.defers, .tuple #[v1, v2], by
    have e1 := h1 a w ha hs
    have e2 := h2 a w ha hs
    rw [results_rv, hr]; simp [e1, e2], hR w hs⟩
theorem ret3 (hr : fn.results = #[r1, r2, r3]) (h1 : Rv c tm C F r1 v1) (h2 : Rv c tm C F r2 v2) (h3 : Rv c tm C F r3 v3) (hR : ∀ w, St c w C F → R (.returned (.tuple #[v1, v2, v3])) w) : JQ c (bodyPost c.P fn R) .ret tm C F := fun a w ha hs =>
  ⟨ha.defers, .tuple #[v1, v2, v3], by
    have e1 := h1 a w ha hs
    have e2 := h2 a w ha hs
    have e3 := h3 a w ha hs
    rw [results_rv, hr]; simp [e1, e2, e3], hR w hs⟩
/-- A body that ends without 'return'. -/
theorem ret_end (h : JQ c (bodyPost c.P fn R) .ret tm C F) : JQ c (bodyPost c.P fn R) .normal tm C F := h

/-! ### loops -/
def Again (P : Program) (body : Code) (Q : Exit → Act → World → Prop) (a : Act) (w : World) : Prop :=
  ∀ (b : Frame) (k : List Item) (cs : List Frame), ∃ e a' w', Q e a' w' ∧ Arrives P (lone (b.at a (.code body :: .inLoop body :: k)) cs w) b k cs e a' w'
theorem JC.loop {σ : Type} (E : σ → Env) (D : σ → List Chunk) (H : σ → World → Prop) (Ψ : σ → Prop) (μ : σ → Nat) {body : Code} (s0 : σ) (h0 : Ψ s0) (ht : ∀ i v, lk (E s0) i = some v → lk tm i = some v) (hs : ∀ w, St c w C F → St c w (D s0) (H s0))
    (h : ∀ s, Ψ s → ∀ K : Act → World → Prop, (∀ s', Ψ s' → μ s' < μ s → ∀ a w, Ag c.n a (E s') → St c w (D s') (H s') → K a w) → JC c body (Exit.then K Q) (E s) (D s) (H s)) : JC c (.loop body) Q tm C F := by
  have key : ∀ n s, μ s = n → Ψ s → ∀ a w, Ag c.n a (E s) → St c w (D s) (H s) → Again c.P body Q a w := by
    intro n
    induction n using Nat.strongRecOn with
    | _ n ih =>
      intro s hn hΨ a w ha hst b k cs
      obtain ⟨e, a₁, w₁, hq, harr⟩ := h s hΨ (Again c.P body Q) (fun s' hs' hlt a w ha hst => ih (μ s') (hn ▸ hlt) s' rfl hs' a w ha hst) a w ha hst b (.inLoop body :: k) cs
      cases e with
      | normal =>
        obtain ⟨e₂, a₂, w₂, hq₂, harr₂⟩ := hq b k cs
        exact ⟨e₂, a₂, w₂, hq₂, .of_steps (Steps.trans harr (.one step_inLoop)) harr₂⟩
      | exit id => exact ⟨_, a₁, w₁, hq, .pass (x := .inLoop body) rfl (fun _ _ => .inl (by simp)) harr⟩
      | goto l => exact ⟨_, a₁, w₁, hq, .pass (x := .inLoop body) rfl (fun _ _ => .inl (by simp)) harr⟩
      | ret => exact ⟨_, a₁, w₁, hq, .pass (x := .inLoop body) rfl (fun _ _ => .inl (by simp)) harr⟩
      | panic ch => exact ⟨_, a₁, w₁, hq, .pass (x := .inLoop body) rfl (fun _ _ => .inl (by simp)) harr⟩
      | outgrown => exact ⟨_, a₁, w₁, hq, .pass (x := .inLoop body) rfl (fun _ _ => .inl (by simp)) harr⟩
  intro a w ha hst b k cs
  obtain ⟨e, a', w', hq, harr⟩ := key _ s0 rfl h0 a w (ha.sub ht) (hs w hst) b k cs
  exact ⟨e, a', w', hq, .of_steps (.one step_loop) harr⟩
end
end Go.Sx
namespace Go.Sx
open Go Go.RowKit
set_option linter.unusedVariables false
set_option linter.unusedSimpArgs false

section
variable {P : Program} {ops : Array Oper} {Q : Exit → Act → World → Prop} {S : World → Prop}
/-- Does j wait for i? -/
def waits (ops : Array Oper) (j i : Nat) : Bool := match ops[j]? with
  | some o => o.after.any fun e => Region.binds .any e && e.on == i
  | none => false
/-- What an operation waits for, itself and through others: a mask for each operation. -/
def preds (o : Oper) : List Nat := (o.after.toList.filter fun e => Region.binds .any e).map (·.on)
def maskOf (ms : List Nat) : List Nat → Nat
  | [] => 0
  | k :: ks => (2 ^ k ||| ms.getD k 0) ||| maskOf ms ks
def ancs : List Oper → List Nat → List Nat
  | [], ms => ms
  | o :: r, ms => ancs r (ms ++ [maskOf ms (preds o)])
def before (ops : Array Oper) (ms : List Nat) (j i : Nat) : Bool := match ops[j]? with
  | some o => (maskOf ms (preds o)).testBit i
  | none => false
/-- Is there another operation that j isn't ordered with? -/
def loose (ops : Array Oper) (j : Nat) : Bool := (List.range ops.size).any fun i => !(i == j) && (!(waits ops j i) && (!(waits ops i j) && (!(before ops (ancs ops.toList []) j i) && !(before ops (ancs ops.toList []) i j))))
/-- What has come up has come up behind all that it waits for. -/
def Closed (ops : Array Oper) (listed : Array Bool) : Prop := ∀ k o, ops[k]? = some o → listed.getD k false = true → ∀ e ∈ o.after, Region.binds .any e = true → listed.getD e.on false = true
def closedB (ops : Array Oper) (listed : Array Bool) : Bool := (List.range ops.size).all fun k => !(listed.getD k false) || match ops[k]? with
  | some o => o.after.all fun e => !(Region.binds .any e) || listed.getD e.on false
  | none => true
theorem closed_of {listed : Array Bool} (h : closedB ops listed = true) : Closed ops listed := by
  intro k o hk hl e he hb
  have hlt : k < ops.size := (Array.getElem?_eq_some_iff.1 hk).1
  have := List.all_eq_true.1 h k (List.mem_range.2 hlt)
  rw [hk, hl] at this
  simp only [Bool.not_true, Bool.false_or] at this
  have h2 := Array.all_eq_true'.1 this e he
  rw [hb] at h2
  simpa using h2
theorem mem_maskOf {ms : List Nat} {i : Nat} : ∀ {ks : List Nat}, (maskOf ms ks).testBit i = true → ∃ k ∈ ks, i = k ∨ (ms.getD k 0).testBit i = true
  | [], h => by simp [maskOf] at h
  | k :: ks, h => by
    rw [maskOf, Nat.testBit_or, Nat.testBit_or, Bool.or_eq_true, Bool.or_eq_true] at h
    rcases h with (h | h) | h
    · refine ⟨k, List.mem_cons_self .., .inl ?_⟩
      rw [Nat.testBit_two_pow] at h
      simpa using (of_decide_eq_true h).symm
    · exact ⟨k, List.mem_cons_self .., .inr h⟩
    · obtain ⟨q, hq, h'⟩ := mem_maskOf h
      exact ⟨q, List.mem_cons_of_mem _ hq, h'⟩
theorem mem_preds {o : Oper} {k : Nat} (h : k ∈ preds o) : ∃ e ∈ o.after, Region.binds .any e = true ∧ e.on = k := by
  unfold preds at h
  obtain ⟨e, he, rfl⟩ := List.mem_map.1 h
  obtain ⟨h1, h2⟩ := List.mem_filter.1 he
  exact ⟨e, Array.mem_toList_iff.1 h1, h2, rfl⟩
theorem ancs_good {listed : Array Bool} (hc : Closed ops listed) : ∀ (l : List Oper) (ms : List Nat), l = ops.toList.drop ms.length → (∀ j i, (ms.getD j 0).testBit i = true → listed.getD j false = true → listed.getD i false = true) →
    ∀ j i, ((ancs l ms).getD j 0).testBit i = true → listed.getD j false = true → listed.getD i false = true := by
  intro l
  induction l with
  | nil => intro ms _ h; exact h
  | cons o r ih =>
    intro ms hl h
    refine ih _ ?_ ?_
    · rw [List.length_append, List.length_singleton, ← List.drop_drop, ← hl]; rfl
    · intro j i hb hj
      rw [List.getD_eq_getElem?_getD] at hb
      rcases Nat.lt_trichotomy j ms.length with hlt | rfl | hgt
      · rw [List.getElem?_append_left hlt, ← List.getD_eq_getElem?_getD] at hb
        exact h j i hb hj
      · rw [List.getElem?_append_right (Nat.le_refl _), Nat.sub_self] at hb
        have ho : ops[ms.length]? = some o := by
          have h0 : (ops.toList.drop ms.length)[0]? = some o := by rw [← hl]; rfl
          rw [List.getElem?_drop, Nat.add_zero] at h0
          simpa using h0
        obtain ⟨k, hk, h'⟩ := mem_maskOf (by simpa using hb)
        obtain ⟨e, he, hbe, rfl⟩ := mem_preds hk
        have hkl := hc _ o ho hj e he hbe
        rcases h' with rfl | h'
        · exact hkl
        · exact h _ i h' hkl
      · rw [List.getElem?_append_right (by omega), List.getElem?_eq_none (by simp; omega)] at hb
        simp at hb
theorem not_before {listed : Array Bool} (hc : Closed ops listed) {i j : Nat} (hj : j ∈ Region.ready .any ops listed) (hi : listed.getD i true = false) : before ops (ancs ops.toList []) j i = false := by
  rw [Bool.eq_false_iff]
  intro hb
  obtain ⟨_, o, ho, hall⟩ := mem_ready.1 hj
  unfold before at hb
  rw [ho] at hb
  obtain ⟨k, hk, h'⟩ := mem_maskOf hb
  obtain ⟨e, he, hbe, rfl⟩ := mem_preds hk
  have hkl := hall e he hbe
  have hil : listed.getD i false = true := by
    rcases h' with rfl | h'
    · exact hkl
    · exact ancs_good hc ops.toList [] rfl (fun j i h => by simp at h) e.on i h' hkl
  rcases Nat.lt_or_ge i listed.size with h1 | h1
  · simp [h1] at hi hil; rw [hi] at hil; cases hil
  · simp [Array.getElem?_eq_none h1] at hil
theorem closed_step {listed : Array Bool} (hc : Closed ops listed) {j : Nat} (hj : j ∈ Region.ready .any ops listed) : Closed ops (listed.setIfInBounds j true) := by
  intro k o hk hl e he hb
  by_cases hjk : j = k
  · subst hjk
    obtain ⟨_, o', ho, hall⟩ := mem_ready.1 hj
    rw [hk] at ho
    injection ho with ho
    subst ho
    exact getD_set_true (hall e he hb)
  · rw [getD_set_ne false hjk] at hl
    exact getD_set_true (hc k o hk hl e he hb)
def wpAnyL (P : Program) (ops : Array Oper) (Q : Exit → Act → World → Prop) (S : World → Prop) : Nat → Array Bool → Act → World → Prop
  | 0, listed, a, w => Region.ready .any ops listed = [] ∧ Q .normal a w
  | fuel + 1, listed, a, w =>
    (Region.ready .any ops listed = [] → Q .normal a w) ∧
    ∀ i ∈ Region.ready .any ops listed, wpOp P ops Q i (fun a' w' => (loose ops i = true → S w') ∧ wpAnyL P ops Q S fuel (listed.setIfInBounds i true) a' w') a w
theorem wpAny_of_L : ∀ (fuel : Nat) (listed : Array Bool) (a : Act) (w : World), wpAnyL P ops Q S fuel listed a w → wpAny P .any ops Q fuel listed a w
  | 0, _, _, _, h => h
  | fuel + 1, _, _, _, h => ⟨h.1, fun i hi => wpOp_mono (fun a' w' h' => wpAny_of_L fuel _ a' w' h'.2) (h.2 i hi)⟩
theorem waits_spec {i j : Nat} {oj : Oper} (hj : ops[j]? = some oj) (h : ∀ e ∈ oj.after, Region.binds .any e = true → e.on ≠ i) : waits ops j i = false := by
  unfold waits
  rw [hj]
  rw [Bool.eq_false_iff]
  intro hc
  obtain ⟨e, he, hb⟩ := Array.any_eq_true'.1 hc
  simp only [Bool.and_eq_true, beq_iff_eq] at hb
  exact h e he hb.1 hb.2
theorem ready_unlisted {i : Nat} {listed : Array Bool} (hi : i ∈ Region.ready .any ops listed) : listed.getD i true = false := (mem_ready.1 hi).1
theorem not_waits {i j : Nat} {listed : Array Bool} {oj : Oper} (hj : j ∈ Region.ready .any ops listed) (hoj : ops[j]? = some oj) (hi : listed.getD i true = false) : ∀ e ∈ oj.after, Region.binds .any e = true → e.on ≠ i := by
  obtain ⟨_, o, ho, hall⟩ := mem_ready.1 hj
  rw [hoj] at ho
  injection ho with ho
  subst ho
  intro e he hb heq
  have h1 := hall e he hb
  rw [heq] at h1
  rcases Nat.lt_or_ge i listed.size with h' | h'
  · simp [h'] at hi h1; rw [hi] at h1; cases h1
  · simp [Array.getElem?_eq_none h'] at h1
theorem loose_of {i j : Nat} {listed : Array Bool} (hc : Closed ops listed) (hi : i ∈ Region.ready .any ops listed) (hj : j ∈ Region.ready .any ops listed) (hne : j ≠ i) : loose ops j = true := by
  obtain ⟨hui, oi, hoi, _⟩ := mem_ready.1 hi
  obtain ⟨huj, oj, hoj, _⟩ := mem_ready.1 hj
  have h1 := waits_spec hoj (not_waits hj hoj hui)
  have h2 := waits_spec hoi (not_waits hi hoi huj)
  have h3 := not_before hc hj hui
  have h4 := not_before hc hi huj
  unfold loose
  rw [List.any_eq_true]
  have hlt : i < ops.size := (Array.getElem?_eq_some_iff.1 hoi).1
  refine ⟨i, List.mem_range.2 hlt, ?_⟩
  simp [h1, h2, h3, h4, Ne.symm hne]
theorem wpAnyL_first {i : Nat} {oi : Oper} {v : Value} (hi : ops[i]? = some oi) (hsel : ∀ (j : Nat) (o : Oper) cs b, ops[j]? = some o → o.op ≠ .select cs b)
    (hQ : ∀ c a w, Q (.panic c) (a.put oi.dst v) w → Q (.panic c) a w) :
    ∀ (fuel : Nat) (listed : Array Bool) (a : Act) (w : World),
      (∀ j oj, ops[j]? = some oj → j ≠ i → listed.getD j true = false → (∀ e ∈ oj.after, Region.binds .any e = true → e.on ≠ i) → oi.apart ops oj = true) →
      Closed ops listed → i ∈ Region.ready .any ops listed → YieldsIf P ops S oi v a → S w →
      wpAnyL P ops Q S fuel (listed.setIfInBounds i true) (a.put oi.dst v) w → wpAnyL P ops Q S (fuel + 1) listed a w := by
  intro fuel
  induction fuel with
  | zero =>
    intro listed a w _ _ hr hy hS H
    refine ⟨fun h => (by rw [h] at hr; cases hr), fun j hj => ?_⟩
    by_cases hji : j = i
    · subst hji; exact hy.wpOp hi hS ⟨fun _ => hS, H⟩
    · have := ready_mono hj hji
      rw [H.1] at this
      cases this
  | succ fuel ih =>
    intro listed a w hfree hcl hr hy hS H
    refine ⟨fun h => (by rw [h] at hr; cases hr), fun j hj => ?_⟩
    by_cases hji : j = i
    · subst hji; exact hy.wpOp hi hS ⟨fun _ => hS, H⟩
    · have h1 := H.2 j (ready_mono hj hji)
      obtain ⟨hjun, oj, hoj, hall⟩ := mem_ready.1 hj
      have hnot := not_waits hj hoj (ready_unlisted hr)
      have hloose := loose_of hcl hr hj hji
      have h2 := wpOp_putIf hoj (hfree j oj hoj hji hjun hnot) (fun cs b => hsel i oi cs b hi) (fun cs b => hsel j oj cs b hoj) hQ hy h1
      have hfree' : ∀ k ok, ops[k]? = some ok → k ≠ i → (listed.setIfInBounds j true).getD k true = false →
          (∀ e ∈ ok.after, Region.binds .any e = true → e.on ≠ i) → oi.apart ops ok = true := fun k ok hk hki hun hno => by
        refine hfree k ok hk hki ?_ hno
        by_cases hjk : j = k
        · subst hjk; exact hjun
        · rw [getD_set_ne true hjk] at hun; exact hun
      refine wpOp_mono (fun a' w' h3 => ⟨fun _ => h3.2.1 hloose, ih (listed.setIfInBounds j true) a' w' hfree' (closed_step hcl hj) (ready_mono hr (Ne.symm hji)) h3.1 (h3.2.1 hloose) ?_⟩) h2
      rw [Array.setIfInBounds_comm _ _ hji]
      exact h3.2.2
theorem wp_region_L {id : Nat} {a : Act} {w : World} (hm : P.follows .mixedOrders = true)
    (h : wpAnyL P ops Q S ops.size (Array.replicate ops.size false) a { w with drawn := w.drawn + 1 }) : (Code.region id ops true).wp P Q a w :=
  wp_region_any hm (wpAny_of_L _ _ _ _ h)
end
/-- A region that draws, at work: what has come up so far, slots, chunks, facts; S: chunks and facts at its beginning that loads rely on. -/
def D (c : Cx) (ops : Array Oper) (Q : Exit → Act → World → Prop) (Cs : List Chunk) (Fs : World → Prop) (fuel : Nat) (listed : Array Bool) (tm : Env) (C : List Chunk) (F : World → Prop) : Prop :=
  ∀ a w, Ag c.n a tm → St c w C F → St c w Cs Fs → wpAnyL c.P ops Q (fun w => St c w Cs Fs) fuel listed a w
section
variable {c : Cx} {ops : Array Oper} {Q : Exit → Act → World → Prop} {tm tm' : Env} {C C' Cs Cin Cr : List Chunk} {F F' Fs : World → Prop} {o : Oper} {v vx vy : Value} {x y z : Operand} {t t' e : TypeId} {d i fuel : Nat} {listed : Array Bool}
theorem St.drawn {w : World} {k : Nat} (h : St c w C F) : St c { w with drawn := k } C F := h.grow (Fr.drawn _ _ _)
theorem JC.draw {id : Nat} (hm : c.P.follows .mixedOrders = true) (h : D c ops Q C F ops.size (Array.replicate ops.size false) tm C F) : JC c (.region id ops true) Q tm C F := fun a w ha hs =>
  wp_region_L hm (h a _ ha hs.drawn hs.drawn)
/-- The region begins: loads rely on Cs, Fs. -/
theorem JC.drawS {id : Nat} (Cs : List Chunk) (Fs : World → Prop) (hS : ∀ w, St c w C F → St c w Cs Fs) (hm : c.P.follows .mixedOrders = true) (h : D c ops Q Cs Fs ops.size (Array.replicate ops.size false) tm C F) : JC c (.region id ops true) Q tm C F := fun a w ha hs =>
  wp_region_L hm (h a _ ha hs.drawn (hS _ hs).drawn)
/-- The panics' post doesn't hang on the frame. -/
def PQ (Q : Exit → Act → World → Prop) : Prop := ∀ ch a a' w, a'.defers = a.defers → Q (.panic ch) a w → Q (.panic ch) a' w
theorem PQ.next {K : Act → World → Prop} (h : PQ Q) : PQ (Exit.then K Q) := h
theorem PQ.block {id : Nat} (h : PQ Q) : PQ (Exit.inBlock id Q) := h
theorem PQ.body {P : Program} {fn : Func} {R : Ending → World → Prop} : PQ (bodyPost P fn R) := fun ch a a' w hd h => ⟨by rw [hd]; exact h.1, h.2⟩
theorem rdy {i : Nat} (hr : ((Region.ready .any ops listed).contains i && closedB ops listed) = true) : i ∈ Region.ready .any ops listed := by
  rw [Bool.and_eq_true] at hr
  simpa using hr.1
theorem cls {i : Nat} (hr : ((Region.ready .any ops listed).contains i && closedB ops listed) = true) : Closed ops listed := by
  rw [Bool.and_eq_true] at hr
  exact closed_of hr.2
theorem D.take (i : Nat) (hy : Yl c tm Cs Fs o v) (hi : ops[i]? = some o) (hg : o.guard = none) (hd : o.dst = some d) (hn : Nat.ble (d + 1) c.n = true) (hs : Region.noSelect ops = true) (hf : Region.free .any ops listed i = true) (hr : ((Region.ready .any ops listed).contains i && closedB ops listed) = true)
    (hQ : PQ Q) (h : D c ops Q Cs Fs fuel (listed.setIfInBounds i true) ((d, v) :: tm) C F) : D c ops Q Cs Fs (fuel + 1) listed tm C F := fun a w ha hst hS =>
  wpAnyL_first (S := fun w => St c w Cs Fs) hi (Region.noSelect_spec hs) (fun ch a w hq => hQ ch _ _ w (by cases o.dst <;> rfl) hq) fuel listed a w (Region.free_spec hi hf) (cls hr) (rdy hr) (.inl ⟨by simp [Region.wanted, hg], fun w hw => hy a w ha hw⟩) hS (by
    rw [hd]
    exact h _ w (ha.put (Nat.le_of_ble_eq_true hn) v) hst hS)
theorem D.takeG (i : Nat) {gi g : Nat} {b : Bool} {og : Oper} (hy : Yl c tm Cs Fs o v) (hi : ops[i]? = some o) (hg : o.guard = some (gi, b)) (hgi : ops[gi]? = some og) (hog : og.dst = some g) (hb : lk tm g = some (.bool b)) (hd : o.dst = some d) (hn : Nat.ble (d + 1) c.n = true) (hs : Region.noSelect ops = true) (hf : Region.free .any ops listed i = true) (hr : ((Region.ready .any ops listed).contains i && closedB ops listed) = true)
    (hQ : PQ Q) (h : D c ops Q Cs Fs fuel (listed.setIfInBounds i true) ((d, v) :: tm) C F) : D c ops Q Cs Fs (fuel + 1) listed tm C F := fun a w ha hst hS =>
  wpAnyL_first (S := fun w => St c w Cs Fs) hi (Region.noSelect_spec hs) (fun ch a w hq => hQ ch _ _ w (by cases o.dst <;> rfl) hq) fuel listed a w (Region.free_spec hi hf) (cls hr) (rdy hr) (.inl ⟨by rw [wanted_of ha hg hgi hog hb]; simp, fun w hw => hy a w ha hw⟩) hS (by
    rw [hd]
    exact h _ w (ha.put (Nat.le_of_ble_eq_true hn) v) hst hS)
theorem D.skipG (i : Nat) {gi g : Nat} {b : Bool} {og : Oper} (hi : ops[i]? = some o) (hg : o.guard = some (gi, !b)) (hgi : ops[gi]? = some og) (hog : og.dst = some g) (hb : lk tm g = some (.bool b)) (hd : o.dst = some d) (hn : Nat.ble (d + 1) c.n = true) (hs : Region.noSelect ops = true) (hf : Region.free .any ops listed i = true) (hr : ((Region.ready .any ops listed).contains i && closedB ops listed) = true)
    (hQ : PQ Q) (h : D c ops Q Cs Fs fuel (listed.setIfInBounds i true) ((d, undef) :: tm) C F) : D c ops Q Cs Fs (fuel + 1) listed tm C F := fun a w ha hst hS =>
  wpAnyL_first (S := fun w => St c w Cs Fs) (v := undef) hi (Region.noSelect_spec hs) (fun ch a w hq => hQ ch _ _ w (by cases o.dst <;> rfl) hq) fuel listed a w (Region.free_spec hi hf) (cls hr) (rdy hr) (.inr ⟨by rw [wanted_of ha hg hgi hog hb]; cases b <;> rfl, rfl⟩) hS (by
    rw [hd]
    exact h _ w (ha.put (Nat.le_of_ble_eq_true hn) undef) hst hS)
theorem D.takep (i : Nat) {p : Prop} [Decidable p] (hy : Yl c tm Cs Fs o (.bool (decide p))) (hi : ops[i]? = some o) (hg : o.guard = none) (hd : o.dst = some d) (hn : Nat.ble (d + 1) c.n = true) (hs : Region.noSelect ops = true) (hf : Region.free .any ops listed i = true) (hr : ((Region.ready .any ops listed).contains i && closedB ops listed) = true)
    (hQ : PQ Q) (ht : p → D c ops Q Cs Fs fuel (listed.setIfInBounds i true) ((d, .bool true) :: tm) C F) (hff : ¬ p → D c ops Q Cs Fs fuel (listed.setIfInBounds i true) ((d, .bool false) :: tm) C F) : D c ops Q Cs Fs (fuel + 1) listed tm C F := by
  by_cases h : p
  · exact D.take i (hy.to (by rw [decide_eq_true h])) hi hg hd hn hs hf hr hQ (ht h)
  · exact D.take i (hy.to (by rw [decide_eq_false h])) hi hg hd hn hs hf hr hQ (hff h)
theorem D.taken (i : Nat) {p : Prop} [Decidable p] (hy : Yl c tm Cs Fs o (.bool (!decide p))) (hi : ops[i]? = some o) (hg : o.guard = none) (hd : o.dst = some d) (hn : Nat.ble (d + 1) c.n = true) (hs : Region.noSelect ops = true) (hf : Region.free .any ops listed i = true) (hr : ((Region.ready .any ops listed).contains i && closedB ops listed) = true)
    (hQ : PQ Q) (ht : ¬ p → D c ops Q Cs Fs fuel (listed.setIfInBounds i true) ((d, .bool true) :: tm) C F) (hff : p → D c ops Q Cs Fs fuel (listed.setIfInBounds i true) ((d, .bool false) :: tm) C F) : D c ops Q Cs Fs (fuel + 1) listed tm C F := by
  by_cases h : p
  · exact D.take i (hy.to (by rw [decide_eq_true h]; rfl)) hi hg hd hn hs hf hr hQ (hff h)
  · exact D.take i (hy.to (by rw [decide_eq_false h]; rfl)) hi hg hd hn hs hf hr hQ (ht h)
theorem D.takepG (i : Nat) {gi g : Nat} {b : Bool} {og : Oper} {p : Prop} [Decidable p] (hy : Yl c tm Cs Fs o (.bool (decide p))) (hi : ops[i]? = some o) (hg : o.guard = some (gi, b)) (hgi : ops[gi]? = some og) (hog : og.dst = some g) (hb : lk tm g = some (.bool b)) (hd : o.dst = some d) (hn : Nat.ble (d + 1) c.n = true) (hs : Region.noSelect ops = true) (hf : Region.free .any ops listed i = true) (hr : ((Region.ready .any ops listed).contains i && closedB ops listed) = true)
    (hQ : PQ Q) (ht : p → D c ops Q Cs Fs fuel (listed.setIfInBounds i true) ((d, .bool true) :: tm) C F) (hff : ¬ p → D c ops Q Cs Fs fuel (listed.setIfInBounds i true) ((d, .bool false) :: tm) C F) : D c ops Q Cs Fs (fuel + 1) listed tm C F := by
  by_cases h : p
  · exact D.takeG i (hy.to (by rw [decide_eq_true h])) hi hg hgi hog hb hd hn hs hf hr hQ (ht h)
  · exact D.takeG i (hy.to (by rw [decide_eq_false h])) hi hg hgi hog hb hd hn hs hf hr hQ (hff h)
theorem J.ypG {i g : Nat} {b : Bool} {og : Oper} {l : List Oper} {p : Prop} [Decidable p] (hy : Yl c tm C F o (.bool (decide p))) (hg : o.guard = some (i, b)) (hi : ops[i]? = some og) (hog : og.dst = some g) (hb : lk tm g = some (.bool b)) (hd : o.dst = some d) (hn : Nat.ble (d + 1) c.n = true)
    (ht : p → J c ops Q l ((d, .bool true) :: tm) C F) (hff : ¬ p → J c ops Q l ((d, .bool false) :: tm) C F) : J c ops Q (o :: l) tm C F := by
  by_cases h : p
  · exact J.gyes (hy.to (by rw [decide_eq_true h])) hg hi hog hb hd hn (ht h)
  · exact J.gyes (hy.to (by rw [decide_eq_false h])) hg hi hog hb hd hn (hff h)
theorem J.ynG {i g : Nat} {b : Bool} {og : Oper} {l : List Oper} {p : Prop} [Decidable p] (hy : Yl c tm C F o (.bool (!decide p))) (hg : o.guard = some (i, b)) (hi : ops[i]? = some og) (hog : og.dst = some g) (hb : lk tm g = some (.bool b)) (hd : o.dst = some d) (hn : Nat.ble (d + 1) c.n = true)
    (ht : ¬ p → J c ops Q l ((d, .bool true) :: tm) C F) (hff : p → J c ops Q l ((d, .bool false) :: tm) C F) : J c ops Q (o :: l) tm C F := by
  by_cases h : p
  · exact J.gyes (hy.to (by rw [decide_eq_true h]; rfl)) hg hi hog hb hd hn (hff h)
  · exact J.gyes (hy.to (by rw [decide_eq_false h]; rfl)) hg hi hog hb hd hn (ht h)
theorem JC.drawM {id : Nat} (m : List Bool) (hm : c.P.follows .mixedOrders = true) (h : D c ops Q (maskC m C) F ops.size (Array.replicate ops.size false) tm C F) : JC c (.region id ops true) Q tm C F :=
  JC.drawS _ _ (fun w hs => hs.mask m) hm h
theorem D.done (hr : Region.ready .any ops listed = []) (h : JQ c Q .normal tm C F) : D c ops Q Cs Fs fuel listed tm C F := fun a w ha hst hS => by
  cases fuel with
  | zero => exact ⟨hr, h a w ha hst⟩
  | succ n => exact ⟨fun _ => h a w ha hst, by rw [hr]; simp⟩
/-- The one operation that may come up; it is followed by whatever it leaves. -/
theorem D.ef (i : Nat) (hr : Region.ready .any ops listed = [i]) (hi : ops[i]? = some o) (hg : o.guard = none)
    (h : ∀ a w, Ag c.n a tm → St c w C F → St c w Cs Fs → o.wp c.P a w (fun a' w' => (loose ops i = true → St c w' Cs Fs) ∧ wpAnyL c.P ops Q (fun w => St c w Cs Fs) fuel (listed.setIfInBounds i true) a' w') Q) : D c ops Q Cs Fs (fuel + 1) listed tm C F := fun a w ha hst hS => by
  refine ⟨fun h0 => absurd (hr ▸ h0) (by simp), fun j hj => ?_⟩
  rw [hr] at hj
  have hj' : j = i := by simpa using hj
  subst hj'
  unfold wpOp
  simp only [hi, Region.wanted, hg, if_true]
  exact .inl (h a w ha hst hS)
theorem D.yl (i : Nat) (hr : Region.ready .any ops listed = [i]) (hi : ops[i]? = some o) (hy : Yl c tm C F o v) (hg : o.guard = none) (hd : o.dst = some d) (hn : Nat.ble (d + 1) c.n = true) (h : D c ops Q Cs Fs fuel (listed.setIfInBounds i true) ((d, v) :: tm) C F) : D c ops Q Cs Fs (fuel + 1) listed tm C F :=
  D.ef i hr hi hg fun a w ha hst hS => by
    unfold Oper.wp
    rw [hy a w ha hst, Oper.upon_value, hd]
    exact ⟨fun _ => hS, h _ w (ha.put (Nat.le_of_ble_eq_true hn) v) hst hS⟩
variable {ι : Type} {Φ : ι → Prop} {vi : ι → Value} {C1 : ι → List Chunk} {G : ι → World → Prop}
theorem D.enterR {f : FuncId} {args : List Value} (i : Nat) (hri : Region.ready .any ops listed = [i]) (hi : ops[i]? = some o) (hg : o.guard = none) (hd : o.dst = some d) (hn : Nat.ble (d + 1) c.n = true)
    (hr : ∀ a w, Ag c.n a tm → (execOp a.eval o).run c.P w = .ok (.enter f args.toArray) w) (hs : FnSpec c.P c.Gl f args [] (fun w => F w ∧ ∀ x ∈ C, x.sat w) Φ vi C1 G)
    (h : ∀ i1, Φ i1 → D c ops Q Cs Fs fuel (listed.setIfInBounds i true) ((d, vi i1) :: tm) (C1 i1 ++ C) F) : D c ops Q Cs Fs (fuel + 1) listed tm C F :=
  D.ef i hri hi hg fun a w ha hst hS => by
    unfold Oper.wp
    rw [hr a w ha, Oper.upon_enter]
    refine (hs c.n _ _ w (St.enterR (Cin := []) (Cr := C) c.n hst)).mono ?_
    rintro e w' ⟨i1, hi1, rfl, hfr, hsat, hloc, hnd, hsf⟩
    rw [hd]
    have hS' : St c w' Cs Fs := hS.grow (hfr.mono fun k hk => by obtain ⟨x, hx, _⟩ := hk; cases hx)
    exact ⟨fun _ => hS', h i1 hi1 _ w' (ha.put (Nat.le_of_ble_eq_true hn) _) (St.leaveR (Cin := []) (Cr := C) hst hfr hsat hloc hnd) hS'⟩
theorem D.callR {f : FuncId} {xs : Array Operand} {ats : Array TypeId} {args : List Value} (i : Nat) (hri : Region.ready .any ops listed = [i]) (hi : ops[i]? = some o) (ho : o.op = .call { callee := .value (.func f), args := xs, argTypes := ats }) (hg : o.guard = none) (hd : o.dst = some d) (hn : Nat.ble (d + 1) c.n = true)
    (hf : callable c.P f = true) (hx : evs tm xs.toList = some args) (hs : FnSpec c.P c.Gl f args [] (fun w => F w ∧ ∀ x ∈ C, x.sat w) Φ vi C1 G)
    (h : ∀ i1, Φ i1 → D c ops Q Cs Fs fuel (listed.setIfInBounds i true) ((d, vi i1) :: tm) (C1 i1 ++ C) F) : D c ops Q Cs Fs (fuel + 1) listed tm C F :=
  D.enterR i hri hi hg hd hn (run_call ho hf hx) hs h
theorem D.callcR {f : FuncId} {xs : Array Operand} {ats : Array TypeId} {args caps : List Value} (i : Nat) (hri : Region.ready .any ops listed = [i]) (hi : ops[i]? = some o) (ho : o.op = .call { callee := .value z, args := xs, argTypes := ats }) (hg : o.guard = none) (hd : o.dst = some d) (hn : Nat.ble (d + 1) c.n = true)
    (hz : ev tm z = some (.func (.func f) #[] caps.toArray)) (hf : callable c.P f = true) (hx : evs tm xs.toList = some args) (hs : FnSpec c.P c.Gl f (args ++ caps) [] (fun w => F w ∧ ∀ x ∈ C, x.sat w) Φ vi C1 G)
    (h : ∀ i1, Φ i1 → D c ops Q Cs Fs fuel (listed.setIfInBounds i true) ((d, vi i1) :: tm) (C1 i1 ++ C) F) : D c ops Q Cs Fs (fuel + 1) listed tm C F :=
  D.enterR i hri hi hg hd hn (run_callc ho hz hf hx) hs h
theorem D.weakF (h : D c ops Q Cs Fs fuel listed tm C' F') (hs : ∀ w, St c w C F → St c w C' F') : D c ops Q Cs Fs fuel listed tm C F := fun a w ha hst hS => h a w ha (hs w hst) hS
theorem D.callv {f : FuncId} {xs : Array Operand} {ats : Array TypeId} {args : List Value} (i : Nat) (hri : Region.ready .any ops listed = [i]) (hi : ops[i]? = some o) (ho : o.op = .call { callee := .value (.func f), args := xs, argTypes := ats }) (hg : o.guard = none) (hd : o.dst = some d) (hn : Nat.ble (d + 1) c.n = true)
    (hf : callable c.P f = true) (hx : evs tm xs.toList = some args) (hs : PureFn c.P c.Gl f args (fun w => F w ∧ ∀ x ∈ C, x.sat w) v) (h : D c ops Q Cs Fs fuel (listed.setIfInBounds i true) ((d, v) :: tm) C F) : D c ops Q Cs Fs (fuel + 1) listed tm C F :=
  D.callR i hri hi ho hg hd hn hf hx hs fun _ _ => h
theorem D.callcv {f : FuncId} {xs : Array Operand} {ats : Array TypeId} {args caps : List Value} (i : Nat) (hri : Region.ready .any ops listed = [i]) (hi : ops[i]? = some o) (ho : o.op = .call { callee := .value z, args := xs, argTypes := ats }) (hg : o.guard = none) (hd : o.dst = some d) (hn : Nat.ble (d + 1) c.n = true)
    (hz : ev tm z = some (.func (.func f) #[] caps.toArray)) (hf : callable c.P f = true) (hx : evs tm xs.toList = some args) (hs : PureFn c.P c.Gl f (args ++ caps) (fun w => F w ∧ ∀ x ∈ C, x.sat w) v) (h : D c ops Q Cs Fs fuel (listed.setIfInBounds i true) ((d, v) :: tm) C F) : D c ops Q Cs Fs (fuel + 1) listed tm C F :=
  D.callcR i hri hi ho hg hd hn hz hf hx hs fun _ _ => h
theorem wp_then {P : Program} {Q : Exit → Act → World → Prop} {o : Oper} {a : Act} {w : World} {K : Act → World → Prop} (h : o.wp P a w (wpList P ops (Exit.then K Q) []) (Exit.then K Q)) : o.wp P a w K Q := by
  unfold Oper.wp at *
  generalize (execOp a.eval o).run P w = r at *
  cases r
  · rename_i n w'
    cases n <;> exact h
  all_goals exact h
/-- A region that draws, of which each operation waits for the last one from now on. -/
def D0 (c : Cx) (ops : Array Oper) (Q : Exit → Act → World → Prop) (Cs : List Chunk) (Fs : World → Prop) (fuel : Nat) (listed : Array Bool) (tm : Env) (C : List Chunk) (F : World → Prop) : Prop :=
  ∀ a w, Ag c.n a tm → St c w C F → wpAnyL c.P ops Q (fun w => St c w Cs Fs) fuel listed a w
theorem D.of0 (h : D0 c ops Q Cs Fs fuel listed tm C F) : D c ops Q Cs Fs fuel listed tm C F := fun a w ha hst _ => h a w ha hst
theorem D0.ofJ (i : Nat) (hri : Region.ready .any ops listed = [i]) (hi : ops[i]? = some o) (hl : loose ops i = false)
    (h : ∀ K : Act → World → Prop, (∀ tm' C' F', D0 c ops Q Cs Fs fuel (listed.setIfInBounds i true) tm' C' F' → JQ c (Exit.then K Q) .normal tm' C' F') → J c ops (Exit.then K Q) [o] tm C F) : D0 c ops Q Cs Fs (fuel + 1) listed tm C F := fun a w ha hst => by
  refine ⟨fun h0 => absurd (hri ▸ h0) (by simp), fun j hj => ?_⟩
  rw [hri] at hj
  have hj' : j = i := by simpa using hj
  subst hj'
  have h1 := h (fun a' w' => (loose ops j = true → St c w' Cs Fs) ∧ wpAnyL c.P ops Q (fun w => St c w Cs Fs) fuel (listed.setIfInBounds j true) a' w') (fun tm' C' F' hD a' w' ha' hst' => ⟨fun hlo => (by rw [hl] at hlo; cases hlo), hD a' w' ha' hst'⟩) a w ha hst
  unfold wpList at h1
  unfold wpOp
  rw [hi]
  by_cases hw : Region.wanted o (yielded ops a.tmps) = true
  · simp only [hw, if_true] at h1 ⊢
    rcases h1 with h1 | h1
    · refine .inl ?_
      exact wp_then h1
    · exact .inr ⟨h1.1, h1.2⟩
  · simp only [hw] at h1 ⊢
    exact h1
theorem D0.done (hr : Region.ready .any ops listed = []) (h : JQ c Q .normal tm C F) : D0 c ops Q Cs Fs fuel listed tm C F := fun a w ha hst => by
  cases fuel with
  | zero => exact ⟨hr, h a w ha hst⟩
  | succ n => exact ⟨fun _ => h a w ha hst, by rw [hr]; simp⟩
theorem D.ofJ0 (i : Nat) (hri : Region.ready .any ops listed = [i]) (hi : ops[i]? = some o) (hl : loose ops i = false)
    (h : ∀ K : Act → World → Prop, (∀ tm' C' F', D0 c ops Q Cs Fs fuel (listed.setIfInBounds i true) tm' C' F' → JQ c (Exit.then K Q) .normal tm' C' F') → J c ops (Exit.then K Q) [o] tm C F) : D c ops Q Cs Fs (fuel + 1) listed tm C F := D.of0 (D0.ofJ i hri hi hl h)
/-- What is to be shown where operation i comes up. -/
def DS (c : Cx) (ops : Array Oper) (Q : Exit → Act → World → Prop) (Cs : List Chunk) (Fs : World → Prop) (fuel : Nat) (listed : Array Bool) (tm : Env) (C : List Chunk) (F : World → Prop) (i : Nat) : Prop :=
  ∀ a w, Ag c.n a tm → St c w C F → St c w Cs Fs → wpOp c.P ops Q i (fun a' w' => (loose ops i = true → St c w' Cs Fs) ∧ wpAnyL c.P ops Q (fun w => St c w Cs Fs) fuel (listed.setIfInBounds i true) a' w') a w
theorem D.one (i : Nat) (hri : Region.ready .any ops listed = [i]) (h : DS c ops Q Cs Fs fuel listed tm C F i) : D c ops Q Cs Fs (fuel + 1) listed tm C F := fun a w ha hst hS => by
  refine ⟨fun h0 => absurd (hri ▸ h0) (by simp), fun j hj => ?_⟩
  rw [hri] at hj
  have hj' : j = i := by simpa using hj
  subst hj'
  exact h a w ha hst hS
theorem D.two (i k : Nat) (hri : Region.ready .any ops listed = [i, k]) (h : DS c ops Q Cs Fs fuel listed tm C F i) (h' : DS c ops Q Cs Fs fuel listed tm C F k) : D c ops Q Cs Fs (fuel + 1) listed tm C F := fun a w ha hst hS => by
  refine ⟨fun h0 => absurd (hri ▸ h0) (by simp), fun j hj => ?_⟩
  rw [hri] at hj
  have hj' : j = i ∨ j = k := by simpa using hj
  rcases hj' with rfl | rfl
  · exact h a w ha hst hS
  · exact h' a w ha hst hS
theorem DS.ofJ {i : Nat} (hi : ops[i]? = some o)
    (h : ∀ K : Act → World → Prop, (∀ tm' C' F', (∀ w, St c w C' F' → St c w Cs Fs) → D c ops Q Cs Fs fuel (listed.setIfInBounds i true) tm' C' F' → JQ c (Exit.then K Q) .normal tm' C' F') → J c ops (Exit.then K Q) [o] tm C F) : DS c ops Q Cs Fs fuel listed tm C F i := fun a w ha hst hS => by
  have h1 := h (fun a' w' => (loose ops i = true → St c w' Cs Fs) ∧ wpAnyL c.P ops Q (fun w => St c w Cs Fs) fuel (listed.setIfInBounds i true) a' w') (fun tm' C' F' hs hD a' w' ha' hst' => ⟨fun _ => hs w' hst', hD a' w' ha' hst' (hs w' hst')⟩) a w ha hst
  unfold wpList at h1
  unfold wpOp
  rw [hi]
  by_cases hw : Region.wanted o (yielded ops a.tmps) = true
  · simp only [hw, if_true] at h1 ⊢
    rcases h1 with h1 | h1
    · exact .inl (wp_then h1)
    · exact .inr ⟨h1.1, h1.2⟩
  · simp only [hw] at h1 ⊢
    exact h1
/-- The one operation that may come up, by a law for lists; the rest relies on Cs still. -/
theorem D.ofJ (i : Nat) (hri : Region.ready .any ops listed = [i]) (hi : ops[i]? = some o)
    (h : ∀ K : Act → World → Prop, (∀ tm' C' F', (∀ w, St c w C' F' → St c w Cs Fs) → D c ops Q Cs Fs fuel (listed.setIfInBounds i true) tm' C' F' → JQ c (Exit.then K Q) .normal tm' C' F') → J c ops (Exit.then K Q) [o] tm C F) : D c ops Q Cs Fs (fuel + 1) listed tm C F :=
  D.one i hri (DS.ofJ hi h)
/-- A last store. -/
theorem D.store {g off : Nat} {tt : TypeId} {cs vs cs' : List Value} (i : Nat) (ic : Nat) (hri : Region.ready .any ops listed = [i]) (hi : ops[i]? = some o) (hl' : loose ops i = false) (hlast : Region.ready .any ops (listed.setIfInBounds i true) = []) (ho : o.op = .store t x y) (hg : o.guard = none) (hd : o.dst = none) (hx : ev tm x = some (.pointer (some ⟨g, off, none⟩))) (hy : ev tm y = some v) (hC : C[ic]? = some (.box g tt cs))
    (hv : v.cells = vs.toArray) (hz : szO c.P t = some vs.length) (hl : off + vs.length ≤ cs.length) (h1 : ∀ u ∈ vs, u.oneCell' = true) (hcs : spl cs off vs = cs')
    (h : JQ c Q .normal tm (C.set ic (.box g tt cs')) F) : D c ops Q Cs Fs (fuel + 1) listed tm C F :=
  D.ef i hri hi hg fun a w ha hs hS => by
    have hsat := hs.get hC
    have hh : w.heap[g]? = some (.cells cs.toArray tt (0, 0)) := hsat
    have hrun : (execOp a.eval o).run c.P w = .ok .skip (w.setRow g cs'.toArray) := by
      rw [← hcs]
      simp only [execOp, ho, ha.ev hx, ha.ev hy, Instr.storeAt, Instr.sureAddr, Sem.run_bind, Sem.run_pure, Result.andThen_ok, run_storeB hz hv hsat hl h1]
    unfold Oper.wp
    rw [hrun, Oper.upon_skip, hd]
    refine ⟨fun hlo => (by rw [hl'] at hlo; cases hlo), ?_⟩
    have hst := hs.upd hC (y := .box g tt cs') (Fr.setRow w g _) (setRow_heap w g _ _ tt _ hh) (fun k hk => .inl hk)
    cases fuel with
    | zero => exact ⟨hlast, h a _ ha hst⟩
    | succ n => exact ⟨fun _ => h a _ ha hst, by rw [hlast]; simp⟩
/-- A whole block is stored anew. -/
theorem spl_whole {cs vs : List Value} (h : vs.length = cs.length) : spl cs 0 vs = vs := by
  simp [spl, h]
theorem spl_one {cs : List Value} {off : Nat} (h : off < cs.length) : spl cs off [v] = cs.set off v := by
  simp only [spl, List.length_singleton, List.append_assoc, List.singleton_append]
  rw [List.set_eq_take_append_cons_drop, if_pos h]
theorem D.storeW {g n : Nat} {tt : TypeId} {cs vs : List Value} (i ic : Nat) (hri : Region.ready .any ops listed = [i]) (hi : ops[i]? = some o) (hl' : loose ops i = false) (hlast : Region.ready .any ops (listed.setIfInBounds i true) = []) (ho : o.op = .store t x y) (hg : o.guard = none) (hd : o.dst = none) (hx : ev tm x = some (.pointer (some ⟨g, 0, none⟩))) (hy : ev tm y = some v) (hC : C[ic]? = some (.box g tt cs))
    (hv : v.cells = vs.toArray) (hz : szO c.P t = some n) (hn : vs.length = n) (hm : cs.length = n) (h1 : ∀ u ∈ vs, u.oneCell' = true)
    (h : JQ c Q .normal tm (C.set ic (.box g tt vs)) F) : D c ops Q Cs Fs (fuel + 1) listed tm C F :=
  D.store i ic hri hi hl' hlast ho hg hd hx hy hC hv (by rw [hz, hn]) (by omega) h1 (spl_whole (by omega)) h
theorem D.store1 {g off : Nat} {tt : TypeId} {cs : List Value} (i ic : Nat) (hri : Region.ready .any ops listed = [i]) (hi : ops[i]? = some o) (hl' : loose ops i = false) (hlast : Region.ready .any ops (listed.setIfInBounds i true) = []) (ho : o.op = .store t x y) (hg : o.guard = none) (hd : o.dst = none) (hx : ev tm x = some (.pointer (some ⟨g, off, none⟩))) (hy : ev tm y = some v) (hC : C[ic]? = some (.box g tt cs))
    (hv : v.cells = #[v]) (hz : szO c.P t = some 1) (hm : off < cs.length) (h1 : v.oneCell' = true)
    (h : JQ c Q .normal tm (C.set ic (.box g tt (cs.set off v))) F) : D c ops Q Cs Fs (fuel + 1) listed tm C F :=
  D.store i ic hri hi hl' hlast ho hg hd hx hy hC (vs := [v]) hv hz (by simp; omega) (by simpa using h1) (spl_one hm) h
variable {l : List Oper}
theorem J.storeW {g n : Nat} {tt : TypeId} {cs vs : List Value} (ic : Nat) (ho : o.op = .store t x y) (hg : o.guard = none) (hd : o.dst = none) (hx : ev tm x = some (.pointer (some ⟨g, 0, none⟩))) (hy : ev tm y = some v) (hC : C[ic]? = some (.box g tt cs))
    (hv : v.cells = vs.toArray) (hz : szO c.P t = some n) (hn : vs.length = n) (hm : cs.length = n) (h1 : ∀ u ∈ vs, u.oneCell' = true)
    (h : J c ops Q l tm (C.set ic (.box g tt vs)) F) : J c ops Q (o :: l) tm C F :=
  J.store ic ho hg hd hx hy hC hv (by rw [hz, hn]) (by omega) h1 (spl_whole (by omega)) h
theorem J.store1 {g off : Nat} {tt : TypeId} {cs : List Value} (ic : Nat) (ho : o.op = .store t x y) (hg : o.guard = none) (hd : o.dst = none) (hx : ev tm x = some (.pointer (some ⟨g, off, none⟩))) (hy : ev tm y = some v) (hC : C[ic]? = some (.box g tt cs))
    (hv : v.cells = #[v]) (hz : szO c.P t = some 1) (hm : off < cs.length) (h1 : v.oneCell' = true)
    (h : J c ops Q l tm (C.set ic (.box g tt (cs.set off v))) F) : J c ops Q (o :: l) tm C F :=
  J.store ic ho hg hd hx hy hC (vs := [v]) hv hz (by simp; omega) (by simpa using h1) (spl_one hm) h
/-- A whole block is read. -/
theorem y_lbW {g n : Nat} {tt : TypeId} {cs : List Value} (i : Nat) (ho : o.op = .load t x) (hg : aggO c.P t = some true) (hz : szO c.P t = some n) (hn : cs.length = n) (hx : ev tm x = some (.pointer (some ⟨g, 0, none⟩))) (hC : C[i]? = some (.box g tt cs)) : Yl c tm C F o (.agg cs.toArray) :=
  y_lbA i ho hg (by rw [hz, hn]) hx hC (by simp)
/-! ### loops, by the slots that turn -/
def okE (tm : Env) : Env → Prop
  | [] => True
  | p :: r => lk tm p.1 = some p.2 ∧ okE tm r
def okK (tm tm0 : Env) : List Nat → Prop
  | [] => True
  | i :: r => lk tm i = lk tm0 i ∧ okK tm tm0 r
theorem okE_nil {tm : Env} : okE tm [] := trivial
theorem okE_cons {tm r : Env} {k : Nat} {v : Value} (h : lk tm k = some v) (hr : okE tm r) : okE tm ((k, v) :: r) := ⟨h, hr⟩
theorem okK_nil {tm tm0 : Env} : okK tm tm0 [] := trivial
theorem okK_cons {tm tm0 : Env} {i : Nat} {r : List Nat} (h : lk tm i = lk tm0 i) (hr : okK tm tm0 r) : okK tm tm0 (i :: r) := ⟨h, hr⟩
theorem okK_cons2 {tm tm0 : Env} {i : Nat} {r : List Nat} {v : Value} (h : lk tm i = some v) (h0 : lk tm0 i = some v) (hr : okK tm tm0 r) : okK tm tm0 (i :: r) := ⟨h.trans h0.symm, hr⟩
theorem okE_lk {tm M : Env} (h : okE tm M) : ∀ i v, lk M i = some v → lk tm i = some v := by
  induction M with
  | nil => intro i v h; cases h
  | cons p r ih =>
    obtain ⟨k, u⟩ := p
    intro i v hi
    rw [lk_cons] at hi
    by_cases e : k = i
    · rw [if_pos e] at hi; injection hi with hi; subst e; subst hi; exact h.1
    · rw [if_neg e] at hi; exact ih h.2 i v hi
theorem okK_lk {tm tm0 : Env} {ks : List Nat} (h : okK tm tm0 ks) : ∀ i v, lk (keep tm0 ks) i = some v → lk tm i = some v := by
  induction ks with
  | nil => intro i v h; cases h
  | cons j r ih =>
    intro i v hi
    rw [keep] at hi
    split at hi
    · rename_i u hu
      rw [lk_cons] at hi
      by_cases e : j = i
      · rw [if_pos e] at hi; injection hi with hi; subst e; subst hi; exact h.1.trans hu
      · rw [if_neg e] at hi; exact ih h.2 i v hi
    · exact ih h.2 i v hi
theorem okEK {tm tm0 M : Env} {ks : List Nat} (hM : okE tm M) (hK : okK tm tm0 ks) : ∀ i v, lk (M ++ keep tm0 ks) i = some v → lk tm i = some v := by
  intro i v hi
  rw [lk_append] at hi
  cases hm : lk M i with
  | some u => rw [hm] at hi; injection hi with hi; subst hi; exact okE_lk hM i _ hm
  | none => rw [hm] at hi; exact okK_lk hK i v hi
theorem okK_self (tm : Env) (ks : List Nat) : okK tm tm ks := by
  induction ks with
  | nil => trivial
  | cons j r ih => exact ⟨rfl, ih⟩
theorem JC.loopk {σ : Type} (M : σ → Env) (ks : List Nat) (Dc : σ → List Chunk) (H : σ → World → Prop) (Ψ : σ → Prop) (μ : σ → Nat) {body : Code} (s0 : σ) (h0 : Ψ s0) (hM : okE tm (M s0)) (hs : ∀ w, St c w C F → St c w (Dc s0) (H s0))
    (h : ∀ s, Ψ s → ∀ K : Act → World → Prop, (∀ s' tm', Ψ s' → μ s' < μ s → okE tm' (M s') → okK tm' tm ks → JQ c (Exit.then K Q) .normal tm' (Dc s') (H s')) → JC c body (Exit.then K Q) (M s ++ keep tm ks) (Dc s) (H s)) : JC c (.loop body) Q tm C F :=
  JC.loop (fun s => M s ++ keep tm ks) Dc H Ψ μ s0 h0 (okEK hM (okK_self tm ks)) hs fun s hΨ K hK =>
    h s hΨ K fun s' tm' h1 h2 h3 h4 a w ha hst => hK s' h1 h2 a w (ha.sub (okEK h3 h4)) hst
/-- A piece of code that ends in one of some states: the rest is shown once. -/
theorem JC.cut {σ : Type} (M : σ → Env) (ks : List Nat) (Dc : σ → List Chunk) (H : σ → World → Prop) (Ψ : σ → Prop) {x : Code}
    (h1 : ∀ K : Act → World → Prop, (∀ s tm', Ψ s → okE tm' (M s) → okK tm' tm ks → JQ c (Exit.then K Q) .normal tm' (Dc s) (H s)) → JC c x (Exit.then K Q) tm C F) (h2 : ∀ s, Ψ s → JQ c Q .normal (M s ++ keep tm ks) (Dc s) (H s)) : JC c x Q tm C F := fun a w ha hst => by
  refine Code.wp_mono (Q := Exit.then (fun a w => ∃ s, Ψ s ∧ Ag c.n a (M s ++ keep tm ks) ∧ St c w (Dc s) (H s)) Q) (fun e a' w' hq => ?_) (h1 (fun a w => ∃ s, Ψ s ∧ Ag c.n a (M s ++ keep tm ks) ∧ St c w (Dc s) (H s)) (fun s tm' hs hM hK a' w' ha' hst' => ⟨s, hs, ha'.sub (okEK hM hK), hst'⟩) a w ha hst)
  cases e with
  | normal =>
    obtain ⟨s, hs, ha', hst'⟩ := hq
    exact h2 s hs a' w' ha' hst'
  | exit id => exact hq
  | goto l => exact hq
  | ret => exact hq
  | panic ch => exact hq
  | outgrown => exact hq
theorem okE_append {tm A B : Env} (hA : okE tm A) (hB : okE tm B) : okE tm (A ++ B) := by
  induction A with
  | nil => exact hB
  | cons x r ih => exact ⟨hA.1, ih hA.2⟩
/-- A loop: slots that turn (M), slots that stay (kp). -/
theorem JC.loopE {σ : Type} (M : σ → Env) (kp : Env) (hkp : okE tm kp) (Dc : σ → List Chunk) (H : σ → World → Prop) (Ψ : σ → Prop) (μ : σ → Nat) {body : Code} (s0 : σ) (h0 : Ψ s0) (hM : okE tm (M s0)) (hs : ∀ w, St c w C F → St c w (Dc s0) (H s0))
    (h : ∀ s, Ψ s → ∀ K : Act → World → Prop, (∀ s' tm', Ψ s' → μ s' < μ s → okE tm' (M s') → okE tm' kp → JQ c (Exit.then K Q) .normal tm' (Dc s') (H s')) → JC c body (Exit.then K Q) (M s ++ kp) (Dc s) (H s)) : JC c (.loop body) Q tm C F :=
  JC.loop (fun s => M s ++ kp) Dc H Ψ μ s0 h0 (okE_lk (okE_append hM hkp)) hs fun s hΨ K hK =>
    h s hΨ K fun s' tm' h1 h2 h3 h4 a w ha hst => hK s' h1 h2 a w (ha.sub (okE_lk (okE_append h3 h4))) hst
/-- A piece of code that ends in one of some states: the rest is shown once. -/
theorem JC.cutE {σ : Type} (M : σ → Env) (kp : Env) (hkp : okE tm kp) (Dc : σ → List Chunk) (H : σ → World → Prop) (Ψ : σ → Prop) {x : Code}
    (h1 : ∀ K : Act → World → Prop, (∀ s tm', Ψ s → okE tm' (M s) → okE tm' kp → JQ c (Exit.then K Q) .normal tm' (Dc s) (H s)) → JC c x (Exit.then K Q) tm C F) (h2 : ∀ s, Ψ s → JQ c Q .normal (M s ++ kp) (Dc s) (H s)) : JC c x Q tm C F := fun a w ha hst => by
  refine Code.wp_mono (Q := Exit.then (fun a w => ∃ s, Ψ s ∧ Ag c.n a (M s ++ kp) ∧ St c w (Dc s) (H s)) Q) (fun e a' w' hq => ?_) (h1 (fun a w => ∃ s, Ψ s ∧ Ag c.n a (M s ++ kp) ∧ St c w (Dc s) (H s)) (fun s tm' hs hM hK a' w' ha' hst' => ⟨s, hs, ha'.sub (okE_lk (okE_append hM hK)), hst'⟩) a w ha hst)
  cases e with
  | normal =>
    obtain ⟨s, hs, ha', hst'⟩ := hq
    exact h2 s hs a' w' ha' hst'
  | exit id => exact hq
  | goto l => exact hq
  | ret => exact hq
  | panic ch => exact hq
  | outgrown => exact hq
end
end Go.Sx
namespace Go.Sx
open Go Go.RowKit
set_option linter.unusedVariables false
set_option linter.unusedSimpArgs false

/-- A hash: 32 bytes. -/
structure H where
  b : List UInt8
  l : b.length = 32
theorem H.ext' {x y : H} (h : x.b = y.b) : x = y := by
  cases x; cases y; cases h; rfl
instance : DecidableEq H := fun x y => if h : x.b = y.b then isTrue (H.ext' h) else isFalse (fun e => h (e ▸ rfl))
def H.zero : H := ⟨List.replicate 32 0, rfl⟩
/-- The cells of a hash; its value. -/
def hc (h : H) : List Value := h.b.map u8
def hv (h : H) : Value := .agg (hc h).toArray
theorem hcl (h : H) : (hc h).length = 32 := by simp [hc, h.l]
@[simp] theorem length_hc (h : H) : (hc h).length = 32 := hcl h
theorem one_u8 (x : UInt8) : (u8 x).oneCell' = true := rfl
theorem hc1 (h : H) : ∀ u ∈ hc h, u.oneCell' = true := by
  intro u hu
  obtain ⟨x, _, rfl⟩ := List.mem_map.1 hu
  rfl
theorem u8_inj {x y : UInt8} : u8 x = u8 y ↔ x = y := by
  constructor
  · intro h
    injection h with _ h
    exact UInt8.toNat_inj.1 (by omega)
  · rintro rfl; rfl
/-- The cells of a list of hashes. -/
def hcs (l : List H) : List Value := l.flatMap hc
@[simp] theorem length_hcs (l : List H) : (hcs l).length = l.length * 32 := by
  induction l with
  | nil => rfl
  | cons h r ih => simp only [hcs, List.flatMap_cons, List.length_append, hcl, List.length_cons] at ih ⊢; rw [ih]; omega
theorem hcs1 (l : List H) : ∀ u ∈ hcs l, u.oneCell' = true := by
  intro u hu
  obtain ⟨h, _, hh⟩ := List.mem_flatMap.1 hu
  exact hc1 h u hh
theorem hcs_append (a b : List H) : hcs (a ++ b) = hcs a ++ hcs b := List.flatMap_append
theorem hcs_one (h : H) : hcs [h] = hc h := by simp [hcs]
theorem hcs_cons (h : H) (l : List H) : hcs (h :: l) = hc h ++ hcs l := by simp [hcs]
theorem hcs_drop (l : List H) (k : Nat) : (hcs l).drop (k * 32) = hcs (l.drop k) := by
  induction l generalizing k with
  | nil => simp [hcs]
  | cons h r ih =>
    cases k with
    | zero => simp
    | succ k =>
      rw [hcs_cons, List.drop_succ_cons, show (k + 1) * 32 = 32 + k * 32 by omega, ← List.drop_drop, List.drop_left' (hcl h), ih]
theorem hcs_take (l : List H) (k : Nat) : (hcs l).take (k * 32) = hcs (l.take k) := by
  induction l generalizing k with
  | nil => simp [hcs]
  | cons h r ih =>
    cases k with
    | zero => simp [hcs]
    | succ k =>
      rw [hcs_cons, List.take_succ_cons, hcs_cons, show (k + 1) * 32 = 32 + k * 32 by omega, List.take_append, hcl, List.take_of_length_le (by rw [hcl]; omega), show 32 + k * 32 - 32 = k * 32 by omega, ih]
theorem hcs_get (l : List H) (k : Nat) (h : H) (hk : l[k]? = some h) : ((hcs l).drop (k * 32)).take 32 = hc h := by
  rw [hcs_drop]
  obtain ⟨r, hr⟩ : ∃ r, l.drop k = h :: r := by
    have hlt := (List.getElem?_eq_some_iff.1 hk).1
    refine ⟨l.drop (k + 1), ?_⟩
    rw [List.drop_eq_getElem_cons hlt, (List.getElem?_eq_some_iff.1 hk).2]
  rw [hr, hcs_cons, List.take_left' (hcl h)]

/-! ### '==' of two hashes -/
theorem forIn_all {w : World} {P : Program} (body : Nat → Option Bool × Unit → Sem (ForInStep (Option Bool × Unit))) (g : Nat → Bool) (n : Nat) (hb : ∀ i r, i < n → (body i r).run P w = .ok (if g i then .yield (none, ()) else .done (some false, ())) w) : ∀ (k s : Nat), s + k = n →
    ((forIn (List.range' s k) ((none, ()) : Option Bool × Unit) body).run P w) = .ok (if (List.range' s k).all g then (none, ()) else (some false, ())) w := by
  intro k
  induction k with
  | zero => intro s _; simp
  | succ k ih =>
    intro s hs
    rw [List.range'_succ, List.forIn_cons]
    simp only [Sem.run_bind, hb s _ (by omega), Result.andThen_ok]
    cases hg : g s with
    | false => simp [hg]
    | true =>
      simp only [if_true, Sem.run_pure, Result.andThen_ok, List.all_cons, hg, Bool.true_and]
      exact ih (s + 1) (by omega)
theorem eqIn_u8 (P : Program) (w : World) (d : Nat) {t : TypeId} (ht : P.underlying t = some (.int .u8)) (a b : UInt8) : (Op.equalIn (d + 1) t (u8 a) (u8 b)).run P w = .ok (decide (a = b)) w := by
  rw [u8, u8, run_equalIn_int w d t .u8 .u8 _ _ ht]
  congr 1
  rw [Bool.eq_iff_iff]
  simp only [beq_iff_eq, decide_eq_true_eq]
  constructor
  · intro h; exact UInt8.toNat_inj.1 (by omega)
  · rintro rfl; rfl
theorem eqIn_hash (P : Program) (w : World) (d : Nat) {t e : TypeId} (ht : P.underlying t = some (.array 32 e)) (he : P.underlying e = some (.int .u8)) (ha : aggO P e = some false) (hz : szO P e = some 1) (x y : H) :
    (Op.equalIn (d + 2) t (hv x) (hv y)).run P w = .ok (decide (x = y)) w := by
  have hpart : ∀ (h : H) i, i < 32 → (part e (hc h).toArray (i * 1)).run P w = .ok (u8 (h.b.getD i 0)) w := by
    intro h i hi
    have hlt : i < h.b.length := by rw [h.l]; exact hi
    simp only [part, Sem.run_bind, run_isAgg ha, Result.andThen_ok, Bool.false_eq_true, if_false, Nat.mul_one]
    have : (hc h).toArray[i]? = some (u8 (h.b.getD i 0)) := by simp [hc, List.getElem?_eq_getElem hlt]
    rw [this]; rfl
  have hdec : ((List.range' 0 32).all fun i => decide (x.b.getD i 0 = y.b.getD i 0)) = decide (x = y) := by
    rw [Bool.eq_iff_iff, List.all_eq_true]
    simp only [decide_eq_true_eq]
    constructor
    · intro h
      apply H.ext'
      apply List.ext_getElem
      · rw [x.l, y.l]
      · intro i h1 h2
        have := h i (by rw [List.mem_range']; exact ⟨i, by rw [x.l] at h1; omega, by omega⟩)
        simpa [List.getElem?_eq_getElem h1, List.getElem?_eq_getElem h2] using this
    · rintro rfl i _; rfl
  rw [show d + 2 = (d + 1) + 1 by omega]
  rw [Op.equalIn]
  simp only [hv, Sem.run_bind, run_underlying ht, Result.andThen_ok, run_szO hz]
  rw [Std.Legacy.Range.forIn_eq_forIn_range']
  rw [show (List.range' (Std.Legacy.Range.start [:32]) (Std.Legacy.Range.size [:32]) (Std.Legacy.Range.step [:32])) = List.range' 0 32 from rfl]
  rw [forIn_all _ (fun i => decide (x.b.getD i 0 = y.b.getD i 0)) 32 (fun i r hi => by
    simp only [Sem.run_bind, hpart x i hi, hpart y i hi, Result.andThen_ok, eqIn_u8 P w d he]
    cases hq : decide (x.b.getD i 0 = y.b.getD i 0) <;> rfl) 32 0 rfl, hdec]
  cases hq : decide (x = y) <;> rfl
section
variable {c : Cx} {tm : Env} {C : List Chunk} {F : World → Prop} {o : Oper} {x y : Operand} {t t' e : TypeId}
theorem y_heq {a b : H} (ho : o.op = .binOp .eql t x y t') (ht : c.P.underlying t = some (.array 32 e)) (he : c.P.underlying e = some (.int .u8)) (ha : aggO c.P e = some false) (hz : szO c.P e = some 1) (hg : c.P.eqGuardType c.P.depth t = false)
    (hx : ev tm x = some (hv a)) (hy : ev tm y = some (hv b)) : Yl c tm C F o (.bool (decide (a = b))) := fun ac w hag hs => by
  simp only [execOp, ho, hag.ev hx, hag.ev hy, Sem.run_bind]
  rw [hv, hv, run_eqGuard_agg w .eql t x y _ _ hg]
  simp only [Result.andThen_ok, binOp, Sem.run_bind]
  rw [← hv, ← hv, equal_of c.P w fun d => eqIn_hash c.P w d ht he ha hz a b]
  simp
theorem y_hne {a b : H} (ho : o.op = .binOp .neq t x y t') (ht : c.P.underlying t = some (.array 32 e)) (he : c.P.underlying e = some (.int .u8)) (ha : aggO c.P e = some false) (hz : szO c.P e = some 1) (hg : c.P.eqGuardType c.P.depth t = false)
    (hx : ev tm x = some (hv a)) (hy : ev tm y = some (hv b)) : Yl c tm C F o (.bool (!decide (a = b))) := fun ac w hag hs => by
  simp only [execOp, ho, hag.ev hx, hag.ev hy, Sem.run_bind]
  rw [hv, hv, run_eqGuard_agg w .neq t x y _ _ hg]
  simp only [Result.andThen_ok, binOp, Sem.run_bind]
  rw [← hv, ← hv, equal_of c.P w fun d => eqIn_hash c.P w d ht he ha hz a b]
  simp
end
end Go.Sx
