/- Speculum proofs: the laws of single operations. -/
import Derived.Test.YtjkfeonbioccmaaDoorSx
import Derived.WalkLawsBesides
namespace Go.Sx
open Go Go.RowKit
set_option linter.unusedVariables false
set_option linter.unusedSimpArgs false

/-- In the state that tm, C and F tell, the operation leaves v and nothing else. -/
def Yl (c : Cx) (tm : Env) (C : List Chunk) (F : World → Prop) (o : Oper) (v : Value) : Prop :=
  ∀ a w, Ag c.n a tm → St c w C F → (execOp a.eval o).run c.P w = .ok (.value v) w
section
variable {c : Cx} {ops : Array Oper} {Q : Exit → Act → World → Prop} {tm tm' : Env} {C C' : List Chunk} {F F' : World → Prop} {l : List Oper} {o : Oper} {v v' vx vy : Value} {x y z : Operand} {t t' : TypeId} {d : Nat}
theorem J.yl (hy : Yl c tm C F o v) (hg : o.guard = none) (hd : o.dst = some d) (hn : Nat.ble (d + 1) c.n = true) (h : J c ops Q l ((d, v) :: tm) C F) : J c ops Q (o :: l) tm C F := by
  intro a w ha hs
  refine wpList_plain hg fun K hK => ?_
  unfold Oper.wp
  rw [hy a w ha hs, Oper.upon_value, hd]
  exact hK _ _ (h _ w (ha.put (Nat.le_of_ble_eq_true hn) v) hs)
/-- The same, the value spelled otherwise. -/
theorem Yl.to (h : Yl c tm C F o v) (e : v = v') : Yl c tm C F o v' := e ▸ h
/-- A truth value that is parted on. -/
theorem J.ylb {b : Bool} (hy : Yl c tm C F o (.bool b)) (hg : o.guard = none) (hd : o.dst = some d) (hn : Nat.ble (d + 1) c.n = true)
    (ht : b = true → J c ops Q l ((d, .bool true) :: tm) C F) (hf : b = false → J c ops Q l ((d, .bool false) :: tm) C F) : J c ops Q (o :: l) tm C F := by
  cases b
  · exact J.yl hy hg hd hn (hf rfl)
  · exact J.yl hy hg hd hn (ht rfl)
theorem J.ylp {p : Prop} [Decidable p] (hy : Yl c tm C F o (.bool (decide p))) (hg : o.guard = none) (hd : o.dst = some d) (hn : Nat.ble (d + 1) c.n = true)
    (ht : p → J c ops Q l ((d, .bool true) :: tm) C F) (hf : ¬ p → J c ops Q l ((d, .bool false) :: tm) C F) : J c ops Q (o :: l) tm C F :=
  J.ylb hy hg hd hn (fun h => ht (of_decide_eq_true h)) (fun h => hf (of_decide_eq_false h))
theorem J.yln {p : Prop} [Decidable p] (hy : Yl c tm C F o (.bool (!decide p))) (hg : o.guard = none) (hd : o.dst = some d) (hn : Nat.ble (d + 1) c.n = true)
    (ht : ¬ p → J c ops Q l ((d, .bool true) :: tm) C F) (hf : p → J c ops Q l ((d, .bool false) :: tm) C F) : J c ops Q (o :: l) tm C F :=
  J.ylb hy hg hd hn (fun h => ht (by simpa using h)) (fun h => hf (by simpa using h))
theorem tmps_at {n g : Nat} {a : Act} {b : Bool} (h : Ag n a tm) (hb : lk tm g = some (.bool b)) : a.tmps[g]? = some (.bool b) := by
  have hget : a.tmps.getD g undef = .bool b := h.get g _ hb
  simp only [Array.getD_eq_getD_getElem?] at hget
  cases hq : a.tmps[g]? with
  | none => rw [hq] at hget; cases hget
  | some u => rw [hq] at hget; exact congrArg some hget
/-- A guarded operation that runs. -/
theorem J.gyes {i g : Nat} {b : Bool} {og : Oper} (hy : Yl c tm C F o v) (hg : o.guard = some (i, b)) (hi : ops[i]? = some og) (hog : og.dst = some g) (hb : lk tm g = some (.bool b)) (hd : o.dst = some d) (hn : Nat.ble (d + 1) c.n = true)
    (h : J c ops Q l ((d, v) :: tm) C F) : J c ops Q (o :: l) tm C F := by
  intro a w ha hs
  have hw : Region.wanted o (yielded ops a.tmps) = true := by
    have hget := tmps_at ha hb
    simp [Region.wanted, hg, yielded, hi, hog, hget]
  refine wpList_step fun K hK => ?_
  rw [if_pos hw]
  unfold Oper.wp
  rw [hy a w ha hs, Oper.upon_value, hd]
  exact hK _ _ (h _ w (ha.put (Nat.le_of_ble_eq_true hn) v) hs)
/-- A guarded operation that does not run. -/
theorem J.gno {i g : Nat} {b : Bool} {og : Oper} (hg : o.guard = some (i, !b)) (hi : ops[i]? = some og) (hog : og.dst = some g) (hb : lk tm g = some (.bool b)) (hd : o.dst = some d) (hn : Nat.ble (d + 1) c.n = true)
    (h : J c ops Q l ((d, undef) :: tm) C F) : J c ops Q (o :: l) tm C F := by
  intro a w ha hs
  have hw : Region.wanted o (yielded ops a.tmps) = false := by
    have hget := tmps_at ha hb
    cases b <;> simp [Region.wanted, hg, yielded, hi, hog, hget]
  refine wpList_step fun K hK => ?_
  rw [if_neg (by rw [hw]; simp), hd]
  exact hK _ _ (h _ w (ha.put (Nat.le_of_ble_eq_true hn) undef) hs)

theorem wanted_of {i g : Nat} {b b' : Bool} {og : Oper} {a : Act} {n : Nat} (ha : Ag n a tm) (hg : o.guard = some (i, b)) (hi : ops[i]? = some og) (hog : og.dst = some g) (hb : lk tm g = some (.bool b')) : Region.wanted o (yielded ops a.tmps) = (b' == b) := by
  have hget := tmps_at ha hb
  simp [Region.wanted, hg, yielded, hi, hog, hget]
/-- A guard that holds: the operation is as if it had none. -/
theorem J.gon {i g : Nat} {b : Bool} {og : Oper} (hg : o.guard = some (i, b)) (hi : ops[i]? = some og) (hog : og.dst = some g) (hb : lk tm g = some (.bool b)) (h : J c ops Q ({ o with guard := none } :: l) tm C F) : J c ops Q (o :: l) tm C F := by
  intro a w ha hs
  have hw : Region.wanted o (yielded ops a.tmps) = true := by rw [wanted_of ha hg hi hog hb]; simp
  have h1 := h a w ha hs
  unfold wpList at h1 ⊢
  rw [if_pos hw]
  rw [if_pos (by rfl)] at h1
  exact h1
/-! ### operations that only compute -/
theorem y_move (ho : o.op = .move x) (hx : ev tm x = some v) : Yl c tm C F o v := fun a w ha _ => by
  simp only [execOp, ho, ha.ev hx]; rfl
theorem y_assign (ho : o.op = .assign x) (hx : ev tm x = some v) : Yl c tm C F o v := fun a w ha _ => by
  simp only [execOp, ho, ha.ev hx]; rfl
theorem y_pick {b : Bool} (ho : o.op = .pick z x y) (hz : ev tm z = some (.bool b)) (hx : b = true → ev tm x = some v) (hy : b = false → ev tm y = some v) : Yl c tm C F o v := fun a w ha _ => by
  cases b
  · simp only [execOp, ho, ha.ev hz, ha.ev (hy rfl)]; rfl
  · simp only [execOp, ho, ha.ev hz, ha.ev (hx rfl)]; rfl
theorem y_extract {vs : Array Value} {i : Nat} (ho : o.op = .extract x i) (hx : ev tm x = some (.tuple vs)) (hi : vs[i]? = some v) : Yl c tm C F o v := fun a w ha _ => by
  simp only [execOp, ho, ha.ev hx, Instr.extract, hi]; rfl
/-- A binary operation, by what it computes. -/
theorem y_bin {op : BinOp} (ho : o.op = .binOp op t x y t') (hx : ev tm x = some vx) (hy : ev tm y = some vy) (hg : eqGuard op t x y vx vy = pure ())
    (hr : ∀ w, St c w C F → (binOp op t vx vy).run c.P w = .ok v w) : Yl c tm C F o v := fun a w ha hs => by
  simp only [execOp, ho, ha.ev hx, ha.ev hy, hg]
  simp only [Sem.run_bind, Sem.run_pure, Result.andThen_ok, hr w hs]
theorem eqG_int {op : BinOp} {k : IntKind} {n : Int} : eqGuard op t x y (.int k n) v = pure () := by cases op <;> rfl
theorem eqG_str {op : BinOp} {s : ByteArray} : eqGuard op t x y (.string s) v = pure () := by cases op <;> rfl
theorem eqG_bool {op : BinOp} {b : Bool} : eqGuard op t x y (.bool b) v = pure () := by cases op <;> rfl
section ints
variable {k : IntKind} {a b r : Int}
theorem y_add (ho : o.op = .binOp .add t x y t') (hx : ev tm x = some (.int k a)) (hy : ev tm y = some (.int k b)) (hr : k.wrap (a + b) = r) : Yl c tm C F o (.int k r) :=
  y_bin ho hx hy eqG_int fun w _ => by rw [binOp_add]; simp [Op.intArith, hr]
theorem y_sub (ho : o.op = .binOp .sub t x y t') (hx : ev tm x = some (.int k a)) (hy : ev tm y = some (.int k b)) (hr : k.wrap (a - b) = r) : Yl c tm C F o (.int k r) :=
  y_bin ho hx hy eqG_int fun w _ => by rw [binOp_sub]; simp [Op.intArith, hr]
theorem y_mul (ho : o.op = .binOp .mul t x y t') (hx : ev tm x = some (.int k a)) (hy : ev tm y = some (.int k b)) (hr : k.wrap (a * b) = r) : Yl c tm C F o (.int k r) :=
  y_bin ho hx hy eqG_int fun w _ => by rw [binOp_mul]; simp [Op.intArith, hr]
theorem y_quo (ho : o.op = .binOp .quo t x y t') (hx : ev tm x = some (.int k a)) (hy : ev tm y = some (.int k b)) (hb : b ≠ 0) (hr : k.wrap (a.tdiv b) = r) : Yl c tm C F o (.int k r) :=
  y_bin ho hx hy eqG_int fun w _ => by rw [binOp_quo]; simp [Op.intDiv, hb, hr]
theorem y_rem (ho : o.op = .binOp .rem t x y t') (hx : ev tm x = some (.int k a)) (hy : ev tm y = some (.int k b)) (hb : b ≠ 0) (hr : a.tmod b = r) : Yl c tm C F o (.int k r) :=
  y_bin ho hx hy eqG_int fun w _ => by rw [binOp_rem]; simp [Op.intDiv, hb, hr]
theorem wrap64 {n : Int} (h0 : -9223372036854775808 ≤ n) (h1 : n ≤ 9223372036854775807) : IntKind.i64.wrap n = n := by rw [IntKind.wrap_i64]; omega
theorem y_add64 (ho : o.op = .binOp .add t x y t') (hx : ev tm x = some (.int .i64 a)) (hy : ev tm y = some (.int .i64 b)) (h : -9223372036854775808 ≤ a + b ∧ a + b ≤ 9223372036854775807) : Yl c tm C F o (.int .i64 (a + b)) :=
  y_add ho hx hy (wrap64 h.1 h.2)
theorem y_sub64 (ho : o.op = .binOp .sub t x y t') (hx : ev tm x = some (.int .i64 a)) (hy : ev tm y = some (.int .i64 b)) (h : -9223372036854775808 ≤ a - b ∧ a - b ≤ 9223372036854775807) : Yl c tm C F o (.int .i64 (a - b)) :=
  y_sub ho hx hy (wrap64 h.1 h.2)
theorem y_mul64 (ho : o.op = .binOp .mul t x y t') (hx : ev tm x = some (.int .i64 a)) (hy : ev tm y = some (.int .i64 b)) (h : -9223372036854775808 ≤ a * b ∧ a * b ≤ 9223372036854775807) : Yl c tm C F o (.int .i64 (a * b)) :=
  y_mul ho hx hy (wrap64 h.1 h.2)
theorem y_quo64 (ho : o.op = .binOp .quo t x y t') (hx : ev tm x = some (.int .i64 a)) (hy : ev tm y = some (.int .i64 b)) (h : 0 ≤ a ∧ 0 < b ∧ a ≤ 9223372036854775807) : Yl c tm C F o (.int .i64 (a / b)) :=
  y_quo ho hx hy (by omega) (by
    rw [Int.tdiv_eq_ediv_of_nonneg h.1]
    have h1 := Int.ediv_le_self b h.1
    have h2 : 0 ≤ a / b := Int.ediv_nonneg h.1 (by omega)
    exact wrap64 (by omega) (by omega))
theorem y_rem64 (ho : o.op = .binOp .rem t x y t') (hx : ev tm x = some (.int .i64 a)) (hy : ev tm y = some (.int .i64 b)) (h : 0 ≤ a ∧ 0 < b) : Yl c tm C F o (.int .i64 (a % b)) :=
  y_rem ho hx hy (by omega) (Int.tmod_eq_emod_of_nonneg h.1)
theorem y_eq (ho : o.op = .binOp .eql t x y t') (hx : ev tm x = some (.int k a)) (hy : ev tm y = some (.int k b)) : Yl c tm C F o (.bool (decide (a = b))) :=
  y_bin ho hx hy eqG_int fun w _ => by
    rw [binOp_eql]; simp only [Sem.run_pure]; congr 2
theorem y_ne (ho : o.op = .binOp .neq t x y t') (hx : ev tm x = some (.int k a)) (hy : ev tm y = some (.int k b)) : Yl c tm C F o (.bool (!decide (a = b))) :=
  y_bin ho hx hy eqG_int fun w _ => by rw [binOp_neq]; simp only [Sem.run_pure]; congr 2
theorem y_lt (ho : o.op = .binOp .lss t x y t') (hx : ev tm x = some (.int k a)) (hy : ev tm y = some (.int k b)) : Yl c tm C F o (.bool (decide (a < b))) :=
  y_bin ho hx hy eqG_int fun w _ => by rw [binOp_lss]; rfl
theorem y_le (ho : o.op = .binOp .leq t x y t') (hx : ev tm x = some (.int k a)) (hy : ev tm y = some (.int k b)) : Yl c tm C F o (.bool (decide (a ≤ b))) :=
  y_bin ho hx hy eqG_int fun w _ => by rw [binOp_leq]; rfl
theorem y_gt (ho : o.op = .binOp .gtr t x y t') (hx : ev tm x = some (.int k a)) (hy : ev tm y = some (.int k b)) : Yl c tm C F o (.bool (decide (b < a))) :=
  y_bin ho hx hy eqG_int fun w _ => by rw [binOp_gtr]; rfl
theorem y_ge (ho : o.op = .binOp .geq t x y t') (hx : ev tm x = some (.int k a)) (hy : ev tm y = some (.int k b)) : Yl c tm C F o (.bool (decide (b ≤ a))) :=
  y_bin ho hx hy eqG_int fun w _ => by rw [binOp_geq]; rfl
/-- Bits of two numbers, whatever they are. -/
theorem y_and (ho : o.op = .binOp .and t x y t') (hx : ev tm x = some (.int k a)) (hy : ev tm y = some (.int k b)) (hr : k.wrap ((BitVec.ofInt k.bits a &&& BitVec.ofInt k.bits b).toNat) = r) : Yl c tm C F o (.int k r) :=
  y_bin ho hx hy eqG_int fun w _ => by rw [binOp_and]; simp only [Op.intBits, Sem.run_pure, hr]
theorem y_or (ho : o.op = .binOp .or t x y t') (hx : ev tm x = some (.int k a)) (hy : ev tm y = some (.int k b)) (hr : k.wrap ((BitVec.ofInt k.bits a ||| BitVec.ofInt k.bits b).toNat) = r) : Yl c tm C F o (.int k r) :=
  y_bin ho hx hy eqG_int fun w _ => by rw [binOp_or]; simp only [Op.intBits, Sem.run_pure, hr]
theorem y_xor (ho : o.op = .binOp .xor t x y t') (hx : ev tm x = some (.int k a)) (hy : ev tm y = some (.int k b)) (hr : k.wrap ((BitVec.ofInt k.bits a ^^^ BitVec.ofInt k.bits b).toNat) = r) : Yl c tm C F o (.int k r) :=
  y_bin ho hx hy eqG_int fun w _ => by rw [binOp_xor]; simp only [Op.intBits, Sem.run_pure, hr]
theorem y_shl {yk : IntKind} (ho : o.op = .binOp .shl t x y t') (hx : ev tm x = some (.int k a)) (hy : ev tm y = some (.int yk b)) (hb : 0 ≤ b) (hr : k.wrap (a * 2 ^ (min b.toNat k.bits)) = r) : Yl c tm C F o (.int k r) :=
  y_bin ho hx hy eqG_int fun w _ => by
    rw [binOp_shl]; simp only [Op.shift]; rw [if_neg (by omega)]; simp only [Sem.run_pure, hr]
theorem y_shr {yk : IntKind} (ho : o.op = .binOp .shr t x y t') (hx : ev tm x = some (.int k a)) (hy : ev tm y = some (.int yk b)) (hb : 0 ≤ b) (hr : a.fdiv (2 ^ (min b.toNat k.bits)) = r) : Yl c tm C F o (.int k r) :=
  y_bin ho hx hy eqG_int fun w _ => by
    rw [binOp_shr]; simp only [Op.shift]; rw [if_neg (by omega)]; simp only [Sem.run_pure, hr]
theorem y_neg (ho : o.op = .unOp .neg t x) (hx : ev tm x = some (.int .i64 a)) (h : -9223372036854775807 ≤ a ∧ a ≤ 9223372036854775807) : Yl c tm C F o (.int .i64 (-a)) := fun ac w ha _ => by
  have hw : IntKind.i64.wrap (0 - a) = -a := by rw [wrap64 (by omega) (by omega)]; omega
  simp only [execOp, ho, ha.ev hx, Op.unary, Op.intArith, hw]; rfl
theorem y_conv {k' : IntKind} (ho : o.op = .convert t t' x) (hs : (c.P.underlying t).isSome = true) (hd : c.P.underlying t' = some (.int k')) (hx : ev tm x = some (.int k a)) (hr : k'.wrap a = r) : Yl c tm C F o (.int k' r) := fun ac w ha _ => by
  obtain ⟨d1, h1⟩ := Option.isSome_iff_exists.1 hs
  simp only [execOp, ho, ha.ev hx, convert, Sem.run_bind, run_underlying h1, run_underlying hd, Result.andThen_ok, Conv.intToInt, Sem.run_pure, hr]
end ints
theorem y_not {b : Bool} (ho : o.op = .unOp .not t x) (hx : ev tm x = some (.bool b)) : Yl c tm C F o (.bool (!b)) := fun a w ha _ => by
  simp only [execOp, ho, ha.ev hx, Op.unary]; rfl
theorem eqIn_bool (P : Program) (w : World) (d : Nat) {t : TypeId} (ht : P.underlying t = some .bool) (a b : Bool) : (Op.equalIn (d + 1) t (.bool a) (.bool b)).run P w = .ok (a == b) w := by
  simp [Op.equalIn, run_underlying ht]
theorem equal_of (P : Program) (w : World) {t : TypeId} {r : Bool} (h : ∀ d : Nat, (Op.equalIn (d + 2) t vx vy).run P w = .ok r w) : (Op.equal t vx vy).run P w = .ok r w := h 9998
theorem y_beq {a b : Bool} (ho : o.op = .binOp .eql t x y t') (ht : c.P.underlying t = some .bool) (hx : ev tm x = some (.bool a)) (hy : ev tm y = some (.bool b)) : Yl c tm C F o (.bool (a == b)) :=
  y_bin ho hx hy eqG_bool fun w _ => by
    simp only [binOp, Sem.run_bind, equal_of c.P w (fun d => eqIn_bool c.P w (d + 1) ht a b), Result.andThen_ok, Sem.run_pure]
theorem y_bne {a b : Bool} (ho : o.op = .binOp .neq t x y t') (ht : c.P.underlying t = some .bool) (hx : ev tm x = some (.bool a)) (hy : ev tm y = some (.bool b)) : Yl c tm C F o (.bool (!(a == b))) :=
  y_bin ho hx hy eqG_bool fun w _ => by
    simp only [binOp, Sem.run_bind, equal_of c.P w (fun d => eqIn_bool c.P w (d + 1) ht a b), Result.andThen_ok, Sem.run_pure]
theorem y_func {fn : Fn} {fs cs : Array Operand} (ho : o.op = .makeFunc fn fs cs) {vs : List Value} (hf : fs = #[]) (hc : ∀ a, Ag c.n a tm → cs.map a.eval = vs.toArray) : Yl c tm C F o (.func fn #[] vs.toArray) := fun a w ha _ => by
  subst hf
  simp [execOp, ho, hc a ha, Instr.makeFunc]
theorem y_nilp {a : Addr} (ho : o.op = .nilCheck x) (hx : ev tm x = some (.pointer (some a))) : Yl c tm C F o (.pointer (some a)) := fun ac w ha _ => by
  simp only [execOp, ho, ha.ev hx]; rfl

/-! ### strings -/
def u8 (x : UInt8) : Value := .int .u8 (x.toNat : Int)
def u32 (x : UInt32) : Value := .int .u32 (x.toNat : Int)
def u64 (x : UInt64) : Value := .int .u64 (x.toNat : Int)
def str (l : List UInt8) : Value := .string ⟨l.toArray⟩
theorem str_append (a b : List UInt8) : (⟨a.toArray⟩ ++ ⟨b.toArray⟩ : ByteArray) = ⟨(a ++ b).toArray⟩ := by
  apply ByteArray.ext
  simp
theorem size_str (l : List UInt8) : (⟨l.toArray⟩ : ByteArray).size = l.length := by simp [ByteArray.size]
theorem toList_str (l : List UInt8) : (⟨l.toArray⟩ : ByteArray).toList = l := by
  rw [ByteArray.toList_eq]
theorem y_sadd {a b : List UInt8} (ho : o.op = .binOp .add t x y t') (hx : ev tm x = some (str a)) (hy : ev tm y = some (str b)) (h : a.length + b.length ≤ 9223372036854775807) : Yl c tm C F o (str (a ++ b)) :=
  y_bin ho hx hy eqG_str fun w _ => by
    have hn : ¬ (((⟨a.toArray⟩ : ByteArray).size + (⟨b.toArray⟩ : ByteArray).size : Nat) : Int) > IntKind.i64.max := by rw [size_str, size_str, IntKind.max_i64]; omega
    simp only [str, binOp, Op.stringOp]
    rw [if_neg hn, str_append]; rfl
theorem beq_dec (a b : List UInt8) : (a == b) = decide (a = b) := by rw [Bool.eq_iff_iff]; simp
theorem y_seq {a b : List UInt8} (ho : o.op = .binOp .eql t x y t') (hx : ev tm x = some (str a)) (hy : ev tm y = some (str b)) : Yl c tm C F o (.bool (decide (a = b))) :=
  y_bin ho hx hy eqG_str fun w _ => by
    simp only [str, binOp, Op.stringOp, toList_str, beq_dec]; rfl
theorem y_sne {a b : List UInt8} (ho : o.op = .binOp .neq t x y t') (hx : ev tm x = some (str a)) (hy : ev tm y = some (str b)) : Yl c tm C F o (.bool (!decide (a = b))) :=
  y_bin ho hx hy eqG_str fun w _ => by
    simp only [str, binOp, Op.stringOp, toList_str, beq_dec]; rfl
theorem y_slen {a : List UInt8} {ty : TypeId} (ho : o.op = .call { callee := .builtin .len, args := #[x], argTypes := #[t] }) (ht : c.P.underlying t = some .string) (hx : ev tm x = some (str a)) : Yl c tm C F o (.int .i64 a.length) := fun ac w ha _ => by
  simp only [execOp, ho, resolve, invoke, builtin, Sem.run_bind, Sem.run_pure, Result.andThen_ok, List.map_toArray, List.map_cons, List.map_nil, ha.ev hx]
  simp [Builtin.len_, str, run_underlying ht, goInt, size_str]
theorem y_len {A : Option Addr} {n k e : Nat} (ho : o.op = .call { callee := .builtin .len, args := #[x], argTypes := #[t] }) (ht : c.P.underlying t = some (.slice e)) (hx : ev tm x = some (.slice A n k)) : Yl c tm C F o (.int .i64 n) := fun ac w ha _ => by
  simp only [execOp, ho, resolve, invoke, builtin, Sem.run_bind, Sem.run_pure, Result.andThen_ok, List.map_toArray, List.map_cons, List.map_nil, ha.ev hx]
  simp [Builtin.len_, run_underlying ht, goInt]
theorem y_lenarr {n e : Nat} (ho : o.op = .call { callee := .builtin .len, args := #[x], argTypes := #[t] }) (ht : c.P.underlying t = some (.array n e)) (hx : ev tm x = some v) : Yl c tm C F o (.int .i64 n) := fun ac w ha _ => by
  simp only [execOp, ho, resolve, invoke, builtin, Sem.run_bind, Sem.run_pure, Result.andThen_ok, List.map_toArray, List.map_cons, List.map_nil, ha.ev hx]
  simp [Builtin.len_, run_underlying ht, goInt]
theorem extract_str (l : List UInt8) (a b : Nat) : (⟨l.toArray⟩ : ByteArray).extract a b = ⟨((l.take b).drop a).toArray⟩ := by
  apply ByteArray.ext
  apply Array.ext'
  simp [List.drop_take, List.extract_eq_take_drop]
theorem y_sindex {l : List UInt8} {k : IntKind} {i : Int} (ho : o.op = .index t x y) (ht : c.P.underlying t = some .string) (hx : ev tm x = some (str l)) (hy : ev tm y = some (.int k i)) (h0 : 0 ≤ i) {b : UInt8} (hb : l[i.toNat]? = some b) : Yl c tm C F o (u8 b) := fun ac w ha _ => by
  have hget : (⟨l.toArray⟩ : ByteArray)[i.toNat]? = some b := by
    have hlt : i.toNat < l.length := (List.getElem?_eq_some_iff.1 hb).1
    rw [getElem?_pos _ _ (by rw [size_str]; exact hlt)]
    have := (List.getElem?_eq_some_iff.1 hb).2
    rw [← this]; rfl
  simp only [execOp, ho, ha.ev hx, ha.ev hy, Instr.index, asIntOf, Sem.run_bind, Sem.run_pure, Result.andThen_ok, run_underlying ht, str]
  rw [if_pos h0, hget]; rfl
/-- s[lo:hi] -/
theorem y_sslice {l : List UInt8} {kl kh : IntKind} {a b : Int} {xl xh : Operand} (ho : o.op = .slice t x (some xl) (some xh) none) (ht : c.P.underlying t = some .string) (hx : ev tm x = some (str l)) (hl : ev tm xl = some (.int kl a)) (hh : ev tm xh = some (.int kh b))
    (h : 0 ≤ a ∧ a ≤ b ∧ b ≤ l.length) : Yl c tm C F o (str ((l.take b.toNat).drop a.toNat)) := fun ac w ha _ => by
  simp only [execOp, ho, ha.ev hx, Option.map_some, Option.map_none, ha.ev hl, ha.ev hh, str]
  simp only [Sem.run_bind]
  rw [run_sliceAt_string w t _ _ _ _ ht]
  simp only [Instr.slice, Sem.run_bind, run_underlying ht, Result.andThen_ok, Instr.sliceBounds, Sem.run_pure, Option.isSome_none, Bool.false_eq_true, if_false]
  rw [run_sliceBound w kh b _ _ (by omega) (by rw [size_str]; omega)]
  simp only [Result.andThen_ok]
  rw [run_sliceBound w kl a _ _ h.1 (by omega)]
  simp only [Result.andThen_ok, Sem.run_pure, extract_str]
theorem y_sslice_to {l : List UInt8} {kh : IntKind} {b : Int} {xh : Operand} (ho : o.op = .slice t x none (some xh) none) (ht : c.P.underlying t = some .string) (hx : ev tm x = some (str l)) (hh : ev tm xh = some (.int kh b))
    (h : 0 ≤ b ∧ b ≤ l.length) : Yl c tm C F o (str (l.take b.toNat)) := fun ac w ha _ => by
  simp only [execOp, ho, ha.ev hx, Option.map_some, Option.map_none, ha.ev hh, str]
  simp only [Sem.run_bind]
  rw [run_sliceAt_string w t _ _ _ _ ht]
  simp only [Instr.slice, Sem.run_bind, run_underlying ht, Result.andThen_ok, Instr.sliceBounds, Sem.run_pure, Option.isSome_none, Bool.false_eq_true, if_false]
  rw [run_sliceBound w kh b _ _ (by omega) (by rw [size_str]; omega)]
  simp only [Result.andThen_ok, Sem.run_pure, extract_str, List.drop_zero]
theorem y_sslice_from {l : List UInt8} {kl : IntKind} {a : Int} {xl : Operand} (ho : o.op = .slice t x (some xl) none none) (ht : c.P.underlying t = some .string) (hx : ev tm x = some (str l)) (hl : ev tm xl = some (.int kl a))
    (h : 0 ≤ a ∧ a ≤ l.length) : Yl c tm C F o (str (l.drop a.toNat)) := fun ac w ha _ => by
  simp only [execOp, ho, ha.ev hx, Option.map_some, Option.map_none, ha.ev hl, str]
  simp only [Sem.run_bind]
  rw [run_sliceAt_string w t _ _ _ _ ht]
  simp only [Instr.slice, Sem.run_bind, run_underlying ht, Result.andThen_ok, Instr.sliceBounds, Sem.run_pure, Option.isSome_none, Bool.false_eq_true, if_false]
  rw [run_sliceBound w kl a _ _ h.1 (by rw [size_str]; omega)]
  simp only [Result.andThen_ok, Sem.run_pure, extract_str, size_str, List.take_length]
end
end Go.Sx
