/- Speculum proofs: the laws of operations on words of 8, 32 and 64 bits; min and max; values of arrays. -/
/- Speculum proofs: rows of the call's own: make, literals of slices, append, copy, stores; what was read of them. -/
/- Speculum proofs: SHA-256 in plain words. No program in sight. -/
import Derived.Test.YtjkfeonbioccmaaDoorMa
import Derived.Laws.BitsLemmas
import Derived.Laws.Bits64
import Derived.Maps.AppendAt
import Derived.Laws.OwnMore
import Derived.Laws.IdiomStrings
namespace Go.Sx
open Go Go.RowKit
set_option linter.unusedVariables false
set_option linter.unusedSimpArgs false

theorem isS {α : Type} {x : Option α} {v : α} (h : x = some v) : x.isSome = true := by rw [h]; rfl
section
variable {c : Cx} {tm : Env} {C : List Chunk} {F : World → Prop} {o : Oper} {x y z : Operand} {t t' e : TypeId}
section w32
variable {a b : UInt32}
theorem y_add32 (ho : o.op = .binOp .add t x y t') (hx : ev tm x = some (u32 a)) (hy : ev tm y = some (u32 b)) : Yl c tm C F o (u32 (a + b)) :=
  y_add ho hx hy (by rw [IntKind.wrap_u32, UInt32.toNat_add]; omega)
theorem y_sub32 (ho : o.op = .binOp .sub t x y t') (hx : ev tm x = some (u32 a)) (hy : ev tm y = some (u32 b)) : Yl c tm C F o (u32 (a - b)) :=
  y_sub ho hx hy (by have := a.toNat_lt; have := b.toNat_lt; rw [IntKind.wrap_u32, UInt32.toNat_sub]; omega)
theorem bv32 (a : UInt32) : BitVec.ofInt IntKind.u32.bits (a.toNat : Int) = a.toBitVec := by
  show BitVec.ofInt 32 (a.toNat : Int) = a.toBitVec
  apply BitVec.eq_of_toNat_eq
  have := a.toNat_lt
  simp [BitVec.toNat_ofInt]
theorem wrap32 (a : UInt32) : IntKind.u32.wrap (a.toNat : Int) = (a.toNat : Int) := by
  have := a.toNat_lt
  rw [IntKind.wrap_u32]; omega
theorem y_and32 (ho : o.op = .binOp .and t x y t') (hx : ev tm x = some (u32 a)) (hy : ev tm y = some (u32 b)) : Yl c tm C F o (u32 (a &&& b)) :=
  y_and ho hx hy (by rw [bv32, bv32]; exact wrap32 (a &&& b))
theorem y_or32 (ho : o.op = .binOp .or t x y t') (hx : ev tm x = some (u32 a)) (hy : ev tm y = some (u32 b)) : Yl c tm C F o (u32 (a ||| b)) :=
  y_or ho hx hy (by rw [bv32, bv32]; exact wrap32 (a ||| b))
theorem y_xor32 (ho : o.op = .binOp .xor t x y t') (hx : ev tm x = some (u32 a)) (hy : ev tm y = some (u32 b)) : Yl c tm C F o (u32 (a ^^^ b)) :=
  y_xor ho hx hy (by rw [bv32, bv32]; exact wrap32 (a ^^^ b))
theorem y_not32 (ho : o.op = .unOp .xor t x) (hx : ev tm x = some (u32 a)) : Yl c tm C F o (u32 (~~~ a)) := fun ac w ha _ => by
  have h1 : BitVec.ofInt IntKind.u32.bits (4294967295 : Int) = BitVec.allOnes 32 := by
    show BitVec.ofInt 32 (4294967295 : Int) = BitVec.allOnes 32
    decide
  have h2 : IntKind.u32.wrap ((BitVec.allOnes 32 ^^^ a.toBitVec).toNat : Int) = ((~~~ a).toNat : Int) := by
    have h3 : BitVec.allOnes 32 ^^^ a.toBitVec = (~~~ a).toBitVec := by rw [BitVec.allOnes_xor]; rfl
    rw [h3]; exact wrap32 (~~~ a)
  have hb := bv32 a
  simp only [execOp, ho, ha.ev hx, u32, Op.unary, Op.intBits]
  have hm : (if IntKind.u32.signed = true then (-1 : Int) else IntKind.u32.max) = 4294967295 := by decide
  rw [hm, h1, hb]
  exact congrArg (fun q => Result.ok (Next.value (Value.int .u32 q)) w) h2
theorem y_shl32 {k : IntKind} {n : Nat} (ho : o.op = .binOp .shl t x y t') (hx : ev tm x = some (u32 a)) (hy : ev tm y = some (.int k (n : Int))) (hn : n < 32) : Yl c tm C F o (u32 (a <<< UInt32.ofNat n)) :=
  y_shl ho hx hy (by omega) (by
    have h1 : min ((n : Int).toNat) IntKind.u32.bits = n := by show min _ 32 = n; omega
    rw [h1, IntKind.wrap_u32, UInt32.toNat_shiftLeft, UInt32.toNat_ofNat']
    have h2 : n % 2 ^ 32 % 32 = n := by omega
    rw [h2, Nat.shiftLeft_eq, Int.natCast_emod, Int.natCast_mul, Int.natCast_pow]
    rfl)
theorem y_shr32 {k : IntKind} {n : Nat} (ho : o.op = .binOp .shr t x y t') (hx : ev tm x = some (u32 a)) (hy : ev tm y = some (.int k (n : Int))) (hn : n < 32) : Yl c tm C F o (u32 (a >>> UInt32.ofNat n)) :=
  y_shr ho hx hy (by omega) (by
    have h1 : min ((n : Int).toNat) IntKind.u32.bits = n := by show min _ 32 = n; omega
    rw [h1, UInt32.toNat_shiftRight, UInt32.toNat_ofNat']
    have h2 : n % 2 ^ 32 % 32 = n := by omega
    rw [h2, Nat.shiftRight_eq_div_pow, Int.natCast_ediv, Int.natCast_pow]
    rw [Int.fdiv_eq_ediv_of_nonneg _ (by exact Int.pow_nonneg (by decide))]
    rfl)
end w32
section w64
variable {a b : UInt64}
theorem y_add_u64 (ho : o.op = .binOp .add t x y t') (hx : ev tm x = some (u64 a)) (hy : ev tm y = some (u64 b)) : Yl c tm C F o (u64 (a + b)) :=
  y_add ho hx hy (by rw [IntKind.wrap_u64, UInt64.toNat_add]; omega)
theorem y_mul_u64 (ho : o.op = .binOp .mul t x y t') (hx : ev tm x = some (u64 a)) (hy : ev tm y = some (u64 b)) : Yl c tm C F o (u64 (a * b)) :=
  y_mul ho hx hy (by rw [IntKind.wrap_u64, UInt64.toNat_mul]; omega)
theorem y_shl_u64 {k : IntKind} {n : Nat} (ho : o.op = .binOp .shl t x y t') (hx : ev tm x = some (u64 a)) (hy : ev tm y = some (.int k (n : Int))) (hn : n < 64) : Yl c tm C F o (u64 (a <<< UInt64.ofNat n)) :=
  y_shl ho hx hy (by omega) (by
    have h1 : min ((n : Int).toNat) IntKind.u64.bits = n := by show min _ 64 = n; omega
    rw [h1, IntKind.wrap_u64, UInt64.toNat_shiftLeft, UInt64.toNat_ofNat']
    have h2 : n % 2 ^ 64 % 64 = n := by omega
    rw [h2, Nat.shiftLeft_eq, Int.natCast_emod, Int.natCast_mul, Int.natCast_pow]
    rfl)
theorem y_shr_u64 {k : IntKind} {n : Nat} (ho : o.op = .binOp .shr t x y t') (hx : ev tm x = some (u64 a)) (hy : ev tm y = some (.int k (n : Int))) (hn : n < 64) : Yl c tm C F o (u64 (a >>> UInt64.ofNat n)) :=
  y_shr ho hx hy (by omega) (by
    have h1 : min ((n : Int).toNat) IntKind.u64.bits = n := by show min _ 64 = n; omega
    rw [h1, UInt64.toNat_shiftRight, UInt64.toNat_ofNat']
    have h2 : n % 2 ^ 64 % 64 = n := by omega
    rw [h2, Nat.shiftRight_eq_div_pow, Int.natCast_ediv, Int.natCast_pow]
    rw [Int.fdiv_eq_ediv_of_nonneg _ (by exact Int.pow_nonneg (by decide))]
    rfl)
/-- Conversions between kinds. -/
theorem y_8to64 {d : UInt8} (ho : o.op = .convert t t' x) (hs : (c.P.underlying t).isSome = true) (hd : c.P.underlying t' = some (.int .u64)) (hx : ev tm x = some (u8 d)) : Yl c tm C F o (u64 d.toUInt64) :=
  y_conv ho hs hd hx (by have := d.toNat_lt; rw [IntKind.wrap_u64]; simp; omega)
theorem y_8to32 {d : UInt8} (ho : o.op = .convert t t' x) (hs : (c.P.underlying t).isSome = true) (hd : c.P.underlying t' = some (.int .u32)) (hx : ev tm x = some (u8 d)) : Yl c tm C F o (u32 d.toUInt32) :=
  y_conv ho hs hd hx (by have := d.toNat_lt; rw [IntKind.wrap_u32]; simp; omega)
theorem y_32to64 {d : UInt32} (ho : o.op = .convert t t' x) (hs : (c.P.underlying t).isSome = true) (hd : c.P.underlying t' = some (.int .u64)) (hx : ev tm x = some (u32 d)) : Yl c tm C F o (u64 d.toUInt64) :=
  y_conv ho hs hd hx (by have := d.toNat_lt; rw [IntKind.wrap_u64]; simp; omega)
theorem y_64to32 (ho : o.op = .convert t t' x) (hs : (c.P.underlying t).isSome = true) (hd : c.P.underlying t' = some (.int .u32)) (hx : ev tm x = some (u64 a)) : Yl c tm C F o (u32 a.toUInt32) :=
  y_conv ho hs hd hx (by rw [IntKind.wrap_u32]; simp)
theorem y_64to8 (ho : o.op = .convert t t' x) (hs : (c.P.underlying t).isSome = true) (hd : c.P.underlying t' = some (.int .u8)) (hx : ev tm x = some (u64 a)) : Yl c tm C F o (u8 a.toUInt8) :=
  y_conv ho hs hd hx (by rw [IntKind.wrap_u8]; simp)
theorem y_32to8 {d : UInt32} (ho : o.op = .convert t t' x) (hs : (c.P.underlying t).isSome = true) (hd : c.P.underlying t' = some (.int .u8)) (hx : ev tm x = some (u32 d)) : Yl c tm C F o (u8 d.toUInt8) :=
  y_conv ho hs hd hx (by rw [IntKind.wrap_u8]; simp)
theorem y_ito64 {n : Nat} (ho : o.op = .convert t t' x) (hs : (c.P.underlying t).isSome = true) (hd : c.P.underlying t' = some (.int .u64)) (hx : ev tm x = some (.int .i64 (n : Int))) (hn : n ≤ 9223372036854775807) : Yl c tm C F o (u64 (UInt64.ofNat n)) :=
  y_conv ho hs hd hx (by rw [IntKind.wrap_u64, UInt64.toNat_ofNat']; omega)
theorem y_8toi {d : UInt8} (ho : o.op = .convert t t' x) (hs : (c.P.underlying t).isSome = true) (hd : c.P.underlying t' = some (.int .i64)) (hx : ev tm x = some (u8 d)) : Yl c tm C F o (.int .i64 (d.toNat : Int)) :=
  y_conv ho hs hd hx (by have := d.toNat_lt; exact wrap64 (by omega) (by omega))
end w64
/-! ### min, max -/
theorem y_min {a b : Int} (ho : o.op = .call { callee := .builtin .min, args := #[x, y], argTypes := #[t, t'] }) (hx : ev tm x = some (.int .i64 a)) (hy : ev tm y = some (.int .i64 b)) : Yl c tm C F o (.int .i64 (min a b)) := fun ac w ha _ => by
  have h1 : (if b < a then b else a) = min a b := by omega
  simp only [execOp, ho, resolve, invoke, builtin, Sem.run_bind, Sem.run_pure, Result.andThen_ok, List.map_toArray, List.map_cons, List.map_nil, ha.ev hx, ha.ev hy]
  simp only [Builtin.min_, List.foldlM, Builtin.min2, Sem.run_bind, Sem.run_pure, Result.andThen_ok, h1]
theorem y_max {a b : Int} (ho : o.op = .call { callee := .builtin .max, args := #[x, y], argTypes := #[t, t'] }) (hx : ev tm x = some (.int .i64 a)) (hy : ev tm y = some (.int .i64 b)) : Yl c tm C F o (.int .i64 (max a b)) := fun ac w ha _ => by
  have h1 : (if b > a then b else a) = max a b := by omega
  simp only [execOp, ho, resolve, invoke, builtin, Sem.run_bind, Sem.run_pure, Result.andThen_ok, List.map_toArray, List.map_cons, List.map_nil, ha.ev hx, ha.ev hy]
  simp only [Builtin.max_, List.foldlM, Builtin.max2, Sem.run_bind, Sem.run_pure, Result.andThen_ok, h1]
/-! ### an element of an array's value -/
theorem run_part1 {P : Program} {w : World} {cs : List Value} {i : Nat} {v : Value} (ha : aggO P e = some false) (hv : cs[i]? = some v) : (part e cs.toArray i).run P w = .ok v w := by
  have : cs.toArray[i]? = some v := by simpa using hv
  simp only [part, Sem.run_bind, run_isAgg ha, Result.andThen_ok, Bool.false_eq_true, if_false, this]
  rfl
theorem run_partA {P : Program} {w : World} {cs vs : List Value} {i : Nat} (ha : aggO P e = some true) (hs : szO P e = some vs.length) (hv : (cs.drop i).take vs.length = vs) (hn : vs ≠ []) : (part e cs.toArray i).run P w = .ok (.agg vs.toArray) w := by
  have hlen : i + vs.length ≤ cs.length := by
    have h1 := congrArg List.length hv
    have h2 : vs.length ≠ 0 := by simpa using hn
    rw [List.length_take, List.length_drop] at h1
    omega
  have hx : cs.toArray.extract i (i + vs.length) = vs.toArray := by
    apply Array.ext'
    simp [List.extract_eq_take_drop, hv]
  simp only [part, Sem.run_bind, run_isAgg ha, Result.andThen_ok, if_true, run_szO hs]
  simp [hx, hlen]
theorem y_ielem {n : Nat} {k : IntKind} {j : Int} {cs : List Value} {v : Value} (ho : o.op = .index t x y) (ht : c.P.underlying t = some (.array n e)) (ha : aggO c.P e = some false) (hz : szO c.P e = some 1) (hx : ev tm x = some (.agg cs.toArray)) (hy : ev tm y = some (.int k j))
    (h : 0 ≤ j ∧ j < n) (hv : cs[j.toNat]? = some v) : Yl c tm C F o v := fun ac w hag _ => by
  simp only [execOp, ho, hag.ev hx, hag.ev hy, Instr.index, asIntOf, Sem.run_bind, Sem.run_pure, Result.andThen_ok, run_underlying ht]
  rw [if_pos h]
  simp only [Sem.run_bind, run_szO hz, Result.andThen_ok, Nat.mul_one, run_part1 ha hv]
theorem slotI {k : IntKind} {a b : Int} (h : a = b) : some (Value.int k a) = some (Value.int k b) := by rw [h]
theorem slotV {a b : Value} (h : a = b) : some a = some b := by rw [h]
theorem y_shr_u64N {a : UInt64} {k : IntKind} {b : Int} (n : Nat) (ho : o.op = .binOp .shr t x y t') (hx : ev tm x = some (u64 a)) (hy : ev tm y = some (.int k b)) (hb : b = n) (hn : n < 64) : Yl c tm C F o (u64 (a >>> UInt64.ofNat n)) := by
  subst hb
  exact y_shr_u64 ho hx hy hn
theorem y_shr32N {a : UInt32} {k : IntKind} {b : Int} (n : Nat) (ho : o.op = .binOp .shr t x y t') (hx : ev tm x = some (u32 a)) (hy : ev tm y = some (.int k b)) (hb : b = n) (hn : n < 32) : Yl c tm C F o (u32 (a >>> UInt32.ofNat n)) := by
  subst hb
  exact y_shr32 ho hx hy hn
/-! ### by natural indices -/
theorem y_schar {l : List UInt8} {k : IntKind} {a : Int} (j : Nat) (ho : o.op = .index t x y) (ht : c.P.underlying t = some .string) (hx : ev tm x = some (str l)) (hy : ev tm y = some (.int k a)) (hj : a = j) (h : j < l.length) : Yl c tm C F o (u8 (l.getD j 0)) :=
  y_sindex ho ht hx hy (by omega) (by subst hj; simp [List.getElem?_eq_getElem h])
theorem y_ielemN {n : Nat} {k : IntKind} {a : Int} {cs : List Value} {v : Value} (j : Nat) (ho : o.op = .index t x y) (ht : c.P.underlying t = some (.array n e)) (ha : aggO c.P e = some false) (hz : szO c.P e = some 1) (hx : ev tm x = some (.agg cs.toArray)) (hy : ev tm y = some (.int k a)) (hj : a = j)
    (h : j < n) (hv : cs[j]? = some v) : Yl c tm C F o v :=
  y_ielem ho ht ha hz hx hy (by omega) (by subst hj; simpa using hv)
theorem At.cell0 {w : World} {g : Nat} {vs : List Value} {i : Nat} {v : Value} (h : At w ⟨g, 0, none⟩ vs) (hv : vs[i]? = some v) : w.cell? ⟨g, i, none⟩ = some v := by
  have := h i v hv
  rwa [Addr.add_lit, Nat.zero_add] at this
/-- An element's address: an array in an own block, its elements of one cell. -/
theorem y_ib1 {g n : Nat} {k : IntKind} {a : Int} (j : Nat) (ho : o.op = .indexAddr t x y) (ht : c.P.underlying t = some (.array n e)) (hz : szO c.P e = some 1) (hx : ev tm x = some (.pointer (some ⟨g, 0, none⟩))) (hy : ev tm y = some (.int k a)) (hj : a = j)
    (h : j < n) : Yl c tm C F o (.pointer (some ⟨g, j, none⟩)) :=
  (y_ib ho ht hz hx hy (by omega)).to (by subst hj; simp)
/-- An element's address: of a slice. -/
theorem y_idxN {A : Option Addr} {n cap sz : Nat} {k : IntKind} {a : Int} (j : Nat) (ho : o.op = .indexAddr t x y) (ht : c.P.underlying t = some (.slice e)) (hz : szO c.P e = some sz) (hx : ev tm x = some (.slice A n cap)) (hy : ev tm y = some (.int k a)) (hj : a = j)
    (h : j < n) (hA : ∀ w, St c w C F → A.isSome = true) : Yl c tm C F o (.pointer (some ((gA A).add (j * sz)))) :=
  (y_idx ho ht hz hx hy (by omega) hA).to (by subst hj; simp)
theorem y_sliceN {l : List UInt8} {kl kh : IntKind} {a b : Int} {xl xh : Operand} (i j : Nat) (ho : o.op = .slice t x (some xl) (some xh) none) (ht : c.P.underlying t = some .string) (hx : ev tm x = some (str l)) (hl : ev tm xl = some (.int kl a)) (hh : ev tm xh = some (.int kh b))
    (ha : a = i) (hb : b = j) (h : i ≤ j ∧ j ≤ l.length) : Yl c tm C F o (str ((l.take j).drop i)) :=
  (y_sslice ho ht hx hl hh (by omega)).to (by subst ha; subst hb; simp)
theorem y_stoN {l : List UInt8} {kh : IntKind} {b : Int} {xh : Operand} (j : Nat) (ho : o.op = .slice t x none (some xh) none) (ht : c.P.underlying t = some .string) (hx : ev tm x = some (str l)) (hh : ev tm xh = some (.int kh b))
    (hb : b = j) (h : j ≤ l.length) : Yl c tm C F o (str (l.take j)) :=
  (y_sslice_to ho ht hx hh (by omega)).to (by subst hb; simp)
theorem y_sfromN {l : List UInt8} {kl : IntKind} {a : Int} {xl : Operand} (i : Nat) (ho : o.op = .slice t x (some xl) none none) (ht : c.P.underlying t = some .string) (hx : ev tm x = some (str l)) (hl : ev tm xl = some (.int kl a))
    (ha : a = i) (h : i ≤ l.length) : Yl c tm C F o (str (l.drop i)) :=
  (y_sslice_from ho ht hx hl (by omega)).to (by subst ha; simp)
/-- A place in an own slice, cut: s[lo:hi], s[:hi], s[lo:]. -/
theorem y_cutN {A : Option Addr} {n cap sz : Nat} {kl kh : IntKind} {a b : Int} {xl xh : Operand} (i j : Nat) (ho : o.op = .slice t x (some xl) (some xh) none) (ht : c.P.underlying t = some (.slice e)) (hz : szO c.P e = some sz) (hx : ev tm x = some (.slice A n cap))
    (hl : ev tm xl = some (.int kl a)) (hh : ev tm xh = some (.int kh b)) (ha : a = i) (hb : b = j) (h : i ≤ j ∧ j ≤ cap) : Yl c tm C F o (.slice (cutA A cap i sz) (j - i) (cap - i)) :=
  (y_cut ho ht hz hx hl hh (by omega)).to (by subst ha; subst hb; simp)
theorem y_cuttoN {A : Option Addr} {n cap sz : Nat} {kh : IntKind} {b : Int} {xh : Operand} (j : Nat) (ho : o.op = .slice t x none (some xh) none) (ht : c.P.underlying t = some (.slice e)) (hz : szO c.P e = some sz) (hx : ev tm x = some (.slice A n cap))
    (hh : ev tm xh = some (.int kh b)) (hb : b = j) (h : j ≤ cap) : Yl c tm C F o (.slice A j cap) :=
  (y_cutto ho ht hz hx hh (by omega)).to (by subst hb; simp)
theorem y_cutfromN {A : Option Addr} {n cap sz : Nat} {kl : IntKind} {a : Int} {xl : Operand} (i : Nat) (ho : o.op = .slice t x (some xl) none none) (ht : c.P.underlying t = some (.slice e)) (hz : szO c.P e = some sz) (hx : ev tm x = some (.slice A n cap))
    (hl : ev tm xl = some (.int kl a)) (ha : a = i) (h : i ≤ n) : Yl c tm C F o (.slice (cutA A cap i sz) (n - i) (cap - i)) :=
  (y_cutfrom ho ht hz hx hl (by omega)).to (by subst ha; simp)
/-- A value of the type int is stored under another name. -/
theorem y_toI {a b : Int} {k : IntKind} (h : Yl c tm C F o (.int k a)) (e : a = b) : Yl c tm C F o (.int k b) := e ▸ h
end
end Go.Sx
namespace Go.Sx
open Go Go.RowKit
set_option linter.unusedVariables false
set_option linter.unusedSimpArgs false

section
variable {P : Program} {w : World} {t e : TypeId}
theorem info_of {z : Value} {sz by' : Nat} (hz : zO P e = some z) (hs : szO P e = some sz) (hb : byO P e = some by') : ∃ i, P.info? e = some i ∧ i.zero = some z ∧ i.size = sz ∧ i.bytes = by' := by
  unfold zO at hz; unfold szO at hs; unfold byO at hb
  cases hi : P.info? e with
  | none => simp [hi] at hz
  | some i => simp [hi] at hz hs hb; exact ⟨i, rfl, hz, hs, hb⟩
theorem slice_of_row {v : Value} {sz n : Nat} {xs : List Value} (h : w.ownsRow 0 e sz v n xs) : ∃ A k, v = .slice A n k ∧ (A = none → n = 0) ∧ n ≤ k := by
  rcases h.2 with ⟨rfl, rfl⟩ | ⟨g, cap, cur, rfl, _, _, hc, _⟩
  · exact ⟨none, 0, rfl, fun _ => rfl, Nat.le_refl _⟩
  · exact ⟨some ⟨g, 0, none⟩, cap, rfl, (fun h => by cases h), hc⟩
theorem Fr.grown' {w w' : World} {row : Option Nat} (h : w.grownBy w' row) : Fr (fun k => row = some k) w w' := Fr.grown h
/-- append onto an own row, what is appended being a slice that is read. -/
theorem run_append' {ty : TypeId} {z v : Value} {sz by' n m kc : Nat} {B : Option Addr} {xs news : List Value} (ht : P.underlying t = some (.slice e)) (hz : zO P e = some z) (hs : szO P e = some sz) (hb : byO P e = some by') (hzs : z.cells.size = sz) (h0 : 0 < sz)
    (hrow : w.ownsRow 0 e sz v n xs) (hl : news.length = m * sz) (hnews : Sl w B news) (h1 : ∀ u ∈ news, u.oneCell' = true) (hm : n + m ≤ maxLen) (hby : (n + m) * by' ≤ 140737488355328) :
    ∃ v' w', (Builtin.append_ #[t, t] ty #[v, .slice B m kc]).run P w = .ok v' w' ∧ w'.ownsRow 0 e sz v' (n + m) (xs ++ news) ∧ w.grownBy w' v.ownBlock ∧ (v'.ownBlock = v.ownBlock ∨ v'.ownBlock = some w.heap.size) := by
  obtain ⟨i, hi, hiz, his, hib⟩ := info_of hz hs hb
  cases B with
  | some a =>
    have hc : ∀ j u, news[j]? = some u → w.cell? (a.add j) = some u := by
      rcases hnews with rfl | ⟨_, h⟩
      · intro j u hj; cases hj
      · exact h
    obtain ⟨v', w', h1', h2, h3, h4, h5⟩ := run_append_own_at (P := P) w 0 t ty e i z sz by' ht hi hiz his hib hzs h0 v n xs hrow a m kc news hl hc h1 hm hby (Nat.zero_le _)
    exact ⟨v', w', h1', h2, h3, h5⟩
  | none =>
    have hn : news = [] := by rcases hnews with h | ⟨h, _⟩; exact h; cases h
    subst hn
    have hm0 : m = 0 := by
      have h2 : m * sz = 0 := by simpa using hl.symm
      rcases Nat.mul_eq_zero.1 h2 with h | h
      · exact h
      · omega
    subst hm0
    refine ⟨v, w, ?_, by simpa using hrow, World.grownBy.refl _ _, .inl rfl⟩
    rcases hrow.2 with ⟨rfl, rfl⟩ | ⟨g, cap, cur, rfl, _, _, hnc, _⟩
    · simp [Builtin.append_, run_underlying ht, sizeOf, typeInfo, hi, Builtin.lenOf, Builtin.firstCells]
    · simp [Builtin.append_, run_underlying ht, sizeOf, typeInfo, hi, Builtin.lenOf, Builtin.firstCells, hnc, storeCells]
end

section
variable {c : Cx} {ops : Array Oper} {Q : Exit → Act → World → Prop} {tm tm' : Env} {C C' : List Chunk} {F F' : World → Prop} {l : List Oper} {o : Oper} {v v' vx vy : Value} {x y z : Operand} {t t' e : TypeId} {d : Nat}
/-- A nil slice is a row of one's own. -/
theorem St.nilrow {w : World} (e : TypeId) (sz : Nat) (h : St c w C F) : St c w (.row (.slice none 0 0) e sz 0 [] :: C) F :=
  h.push (Fr.refl _ _) (World.ownsRow_nil w 0 e sz) (fun k hk => by cases hk)
theorem J.drop {x : Chunk} (h : J c ops Q l tm C F) : J c ops Q l tm (x :: C) F := J.st h fun w hs => hs.forget (List.sublist_cons_self _ _)
theorem JC.drop {y : Code} {x : Chunk} (h : JC c y Q tm C F) : JC c y Q tm (x :: C) F := JC.st h fun w hs => hs.forget (List.sublist_cons_self _ _)
theorem JQ.drop {e : Exit} {x : Chunk} (h : JQ c Q e tm C F) : JQ c Q e tm (x :: C) F := JQ.st h fun w hs => hs.forget (List.sublist_cons_self _ _)
/-- Chunks are known by their place. -/
theorem J.append {n m n' kc sz by' : Nat} {B : Option Addr} {zv : Value} {xs news xs' : List Value} (i : Nat) (ho : o.op = .call { callee := .builtin .append, args := #[x, y], argTypes := #[t, t] }) (hg : o.guard = none) (hd : o.dst = some d) (hn : Nat.ble (d + 1) c.n = true)
    (hx : ev tm x = some v) (hy : ev tm y = some (.slice B m kc)) (ht : c.P.underlying t = some (.slice e)) (hz : zO c.P e = some zv) (hs : szO c.P e = some sz) (hb : byO c.P e = some by') (hzs : zv.cells.size = sz) (h0 : 0 < sz)
    (hC : C[i]? = some (.row v e sz n xs)) (hl : news.length = m * sz) (hsl : ∀ w, St c w C F → Sl w B news) (h1 : ∀ u ∈ news, u.oneCell' = true) (hm : n + m ≤ 4000000000000) (hby : by' ≤ 35) (hn' : n + m = n') (hxs' : xs ++ news = xs')
    (h : ∀ A k, (A = none → n' = 0) → n' ≤ k → J c ops Q l ((d, .slice A n' k) :: tm) (C.set i (.row (.slice A n' k) e sz n' xs')) F) : J c ops Q (o :: l) tm C F := by
  subst hn'; subst hxs'
  exact J.ef (S' := True) hg hd hn fun a w ha hst => by
    have hbb : (n + m) * by' ≤ 140737488355328 := Nat.le_trans (Nat.mul_le_mul hm hby) (by decide)
    obtain ⟨v', w', hr, hrow, hgr, hbl⟩ := run_append' (P := c.P) (w := w) (ty := o.type) (kc := kc) ht hz hs hb hzs h0 (hst.get hC) hl (hsl w hst) h1 (by unfold maxLen; omega) hbb
    obtain ⟨A, k, rfl, hA, hk⟩ := slice_of_row hrow
    refine ⟨_, w', ?_, _, _, hst.upd hC (y := .row (.slice A (n + m) k) e sz (n + m) (xs ++ news)) (Fr.grown hgr) hrow (fun g hg' => ?_), h A k hA hk⟩
    · simp only [execOp, ho, resolve, invoke, builtin, Sem.run_bind, Sem.run_pure, Result.andThen_ok, List.map_toArray, List.map_cons, List.map_nil, ha.ev hx, ha.ev hy, hr]
    · rcases hbl with h' | h'
      · exact .inl (show v.ownBlock = some g from h'.symm.trans hg')
      · simp only [Chunk.own] at hg'; rw [h'] at hg'; injection hg' with hg'; exact .inr (by omega)
/-- make([]T, n) -/
theorem madeCells_rep (z : Array Value) (sz : Nat) (hz : z.size = sz) (n : Nat) : (madeCells z (n * sz)).toList = (List.replicate n z.toList).flatten := by
  unfold madeCells
  apply List.ext_getElem?
  intro j
  have hfl : ∀ (n j : Nat), (List.replicate n z.toList).flatten[j]? = if j < n * sz then z.toList[j % sz]? else none := by
    intro n
    induction n with
    | zero => intro j; simp
    | succ n ih =>
      intro j
      rw [List.replicate_succ, List.flatten_cons, List.getElem?_append, Array.length_toList, hz]
      by_cases h1 : j < sz
      · rw [if_pos h1, Nat.mod_eq_of_lt h1, if_pos (by rw [Nat.succ_mul]; omega)]
      · rw [if_neg h1, ih]
        have h2 : j % sz = (j - sz) % sz := Nat.mod_eq_sub_mod (by omega)
        rw [h2, Nat.succ_mul]
        by_cases h3 : j - sz < n * sz
        · rw [if_pos h3, if_pos (by omega)]
        · rw [if_neg h3, if_neg (by omega)]
  rw [hfl]
  simp only [Array.toList_map, Array.toList_range, List.getElem?_map]
  by_cases h : j < n * sz
  · rw [if_pos h, List.getElem?_range h]
    have h0 : 0 < sz := by
      rcases Nat.eq_zero_or_pos sz with h' | h'
      · rw [h'] at h; omega
      · exact h'
    have hlt : j % sz < z.size := by rw [hz]; exact Nat.mod_lt _ h0
    rw [hz]
    simp [hlt]
  · rw [if_neg h, List.getElem?_eq_none (by simpa using h)]; rfl
theorem J.make {kl kc : IntKind} {a : Int} {sz by' : Nat} {zv : Value} {zs : List Value} (ho : o.op = .makeSlice t x y) (hg : o.guard = none) (hd : o.dst = some d) (hn : Nat.ble (d + 1) c.n = true) (hx : ev tm x = some (.int kl a)) (hy : ev tm y = some (.int kc a))
    (ht : c.P.underlying t = some (.slice e)) (hz : zO c.P e = some zv) (hs : szO c.P e = some sz) (hb : byO c.P e = some by') (hzc : zv.cells = zs.toArray) (hzs : zs.length = sz) (ha : 0 ≤ a ∧ a ≤ 4000000000000) (hby : by' ≤ 64)
    (h : ∀ g, J c ops Q l ((d, .slice (some ⟨g, 0, none⟩) a.toNat a.toNat) :: tm) (.row (.slice (some ⟨g, 0, none⟩) a.toNat a.toNat) e sz a.toNat (List.replicate a.toNat zs).flatten :: C) F) : J c ops Q (o :: l) tm C F :=
  J.ef (S' := True) hg hd hn fun ac w hag hst => by
    obtain ⟨i, hi, hiz, his, hib⟩ := info_of hz hs hb
    obtain ⟨n, rfl⟩ : ∃ n : Nat, a = n := ⟨a.toNat, by omega⟩
    have hbb : i.bytes * n ≤ 281474976710656 := by
      rw [hib]
      have : by' * n ≤ 64 * 4000000000000 := Nat.mul_le_mul hby (by omega)
      omega
    obtain ⟨w', hr, hrow, hgr⟩ := run_make_full (P := c.P) w 0 t e i zv sz ht hi hiz his kl kc n hbb (by unfold maxLen; omega) (Nat.zero_le _)
    rw [madeCells_rep _ sz (by rw [hzc]; simpa using hzs), hzc] at hrow
    refine ⟨_, w', ?_, _, _, hst.push ((Fr.grown hgr).mono fun k hk => by cases hk) (x := .row (.slice (some ⟨w.heap.size, 0, none⟩) n n) e sz n (List.replicate n zs).flatten) hrow (fun k hk => by simp only [Chunk.own, Value.ownBlock, Option.some.injEq] at hk; omega), h _⟩
    simp only [execOp, ho, hag.ev hx, hag.ev hy, Sem.run_bind, hr]; rfl
theorem rep_one (n : Nat) (v : Value) : (List.replicate n [v]).flatten = List.replicate n v := by
  induction n with
  | zero => rfl
  | succ n ih => rw [List.replicate_succ, List.flatten_cons, ih, List.replicate_succ]; rfl
theorem J.makeN {kl kc : IntKind} {a : Int} {sz by' : Nat} {zv : Value} {zs xs : List Value} (n : Nat) (ho : o.op = .makeSlice t x y) (hg : o.guard = none) (hd : o.dst = some d) (hn : Nat.ble (d + 1) c.n = true) (hx : ev tm x = some (.int kl a)) (hy : ev tm y = some (.int kc a))
    (ht : c.P.underlying t = some (.slice e)) (hz : zO c.P e = some zv) (hs : szO c.P e = some sz) (hb : byO c.P e = some by') (hzc : zv.cells = zs.toArray) (hzs : zs.length = sz) (ha : a = n) (hm : n ≤ 4000000000000) (hby : by' ≤ 64) (hxs : (List.replicate n zs).flatten = xs)
    (h : ∀ g, J c ops Q l ((d, .slice (some ⟨g, 0, none⟩) n n) :: tm) (.row (.slice (some ⟨g, 0, none⟩) n n) e sz n xs :: C) F) : J c ops Q (o :: l) tm C F := by
  subst ha; subst hxs
  exact J.make ho hg hd hn hx hy ht hz hs hb hzc hzs (by omega) hby (by simpa using h)
theorem J.store1c {g off : Nat} {tt : TypeId} {cs cs' : List Value} (ic : Nat) (ho : o.op = .store t x y) (hg : o.guard = none) (hd : o.dst = none) (hx : ev tm x = some (.pointer (some ⟨g, off, none⟩))) (hy : ev tm y = some v) (hC : C[ic]? = some (.box g tt cs))
    (hv : v.cells = #[v]) (hz : szO c.P t = some 1) (h1 : v.oneCell' = true) (hm : off < cs.length) (he : cs.set off v = cs')
    (h : J c ops Q l tm (C.set ic (.box g tt cs')) F) : J c ops Q (o :: l) tm C F := by
  subst he
  exact J.store1 ic ho hg hd hx hy hC hv hz hm h1 h
theorem D.store1c {Cs : List Chunk} {Fs : World → Prop} {fuel : Nat} {listed : Array Bool} {g off : Nat} {tt : TypeId} {cs cs' : List Value} (i ic : Nat) (hri : Region.ready .any ops listed = [i]) (hi : ops[i]? = some o) (hl' : loose ops i = false) (hlast : Region.ready .any ops (listed.setIfInBounds i true) = []) (ho : o.op = .store t x y) (hg : o.guard = none) (hd : o.dst = none) (hx : ev tm x = some (.pointer (some ⟨g, off, none⟩))) (hy : ev tm y = some v) (hC : C[ic]? = some (.box g tt cs))
    (hv : v.cells = #[v]) (hz : szO c.P t = some 1) (h1 : v.oneCell' = true) (hm : off < cs.length) (he : cs.set off v = cs')
    (h : JQ c Q .normal tm (C.set ic (.box g tt cs')) F) : D c ops Q Cs Fs (fuel + 1) listed tm C F := by
  subst he
  exact D.store1 i ic hri hi hl' hlast ho hg hd hx hy hC hv hz hm h1 h
theorem one1 (h : v.oneCell' = true) : ∀ u ∈ [v], u.oneCell' = true := by
  intro u hu
  rw [List.mem_singleton.1 hu]; exact h
theorem y_b2sN {A : Option Addr} {k n : Nat} {bs : List UInt8} (ho : o.op = .convert t t' x) (ht : c.P.underlying t = some (.slice e)) (he : c.P.underlying e = some (.int .u8)) (ht' : c.P.underlying t' = some .string) (hx : ev tm x = some (.slice A n k)) (hl : bs.length = n)
    (hr : ∀ w, St c w C F → Sl w A (bs.map u8)) : Yl c tm C F o (str bs) := by
  subst hl
  exact y_b2s ho ht he ht' hx hr
/-- []T{x} -/
theorem fill_one {place : Nat → Option (Nat × Nat)} {cs vs : List Value} {rest : List (Nat × Value)} {i off : Nat} (hp : place i = some (off, vs.length)) (hv : v.cells = vs.toArray) (hl : off + vs.length ≤ cs.length) : Instr.fill place cs.toArray ((i, v) :: rest) = Instr.fill place (spl cs off vs).toArray rest := by
  have key : ∀ (vs : List Value) (off k : Nat) (cs : List Value), off + k + vs.length ≤ cs.length → (vs.zipIdx k).foldl (fun (cs : Array Value) (p : Value × Nat) => cs.setIfInBounds (off + p.2) p.1) cs.toArray = (spl cs (off + k) vs).toArray := by
    intro vs
    induction vs with
    | nil => intro off k cs h; simp [spl]
    | cons u r ih =>
      intro off k cs h
      rw [List.zipIdx_cons, List.foldl_cons]
      have h1 : cs.toArray.setIfInBounds (off + k) u = (cs.set (off + k) u).toArray := by apply Array.ext'; simp
      simp only [h1]
      rw [ih off (k + 1) (cs.set (off + k) u) (by simp at h ⊢; omega)]
      congr 1
      simp only [spl, List.length_cons] at h ⊢
      have hg : (cs.set (off + k) u)[off + k]? = some u := by rw [List.getElem?_set_self (by omega)]
      rw [show off + (k + 1) = off + k + 1 by omega, List.take_add_one, hg, List.take_set_of_le (Nat.le_refl _), List.drop_set_of_lt (by omega)]
      simp only [Option.toList_some, List.append_assoc, List.cons_append, List.nil_append]
      rw [show off + k + 1 + r.length = off + k + (r.length + 1) by omega]
  rw [Instr.fill, hp]
  simp only [hv, List.size_toArray]
  rw [if_neg (by simp; omega)]
  congr 1
  have := key vs off 0 cs (by omega)
  simp only [Nat.add_zero] at this
  rw [← this]
  rw [← Array.foldl_toList]
  simp
/-- An array of one-celled elements, all of them told. -/
theorem fill_all : ∀ (vals : List Value) (k : Nat) (pre post : List Value), (∀ v ∈ vals, v.cells = #[v]) → post.length = vals.length → pre.length = k →
    Instr.fill (fun i => some (i * 1, 1)) (pre ++ post).toArray ((vals.zipIdx k).map fun p => (p.2, p.1)) = some (pre ++ vals).toArray := by
  intro vals
  induction vals with
  | nil =>
    intro k pre post _ hp _
    have : post = [] := List.eq_nil_of_length_eq_zero (by simpa using hp)
    subst this
    simp [Instr.fill]
  | cons v r ih =>
    intro k pre post h1 hp hk
    cases post with
    | nil => simp at hp
    | cons x post =>
      rw [List.zipIdx_cons, List.map_cons]
      rw [fill_one (vs := [v]) (off := k) (by simp) (h1 v (by simp)) (by simp; omega)]
      have hs : spl (pre ++ x :: post) k [v] = (pre ++ [v]) ++ post := by
        simp only [spl, List.length_singleton]
        rw [List.take_append_of_le_length (by omega), List.take_of_length_le (by omega), List.drop_append, List.drop_of_length_le (by omega), hk, show k + 1 - k = 1 by omega]
        simp
      rw [hs, ih (k + 1) (pre ++ [v]) post (fun u hu => h1 u (by simp [hu])) (by simpa using hp) (by simp; omega)]
      simp
theorem run_bs1 {P : Program} {w : World} {sz : Nat} {zv : Value} {cs : List Value} (ht : P.underlying t = some (.slice e)) (hz : zO P e = some zv) (hs : szO P e = some sz) (hzs : zv.cells.size = sz) (h0 : 0 < sz) (hsm : sz ≤ 1000) (hv : v.cells = cs.toArray) (hl : cs.length = sz) :
    (Instr.buildSlice t 1 #[(0, v)]).run P w = .ok (.slice (some ⟨w.heap.size, 0, none⟩) 1 1) (w.alloc (.cells cs.toArray e)) := by
  have hf : Instr.fill (fun i => some (i * sz, sz)) ((Array.range (1 * sz)).map (zv.cells[· % zv.cells.size]!)) [(0, v)] = some cs.toArray := by
    have hsz : ((Array.range (1 * sz)).map (zv.cells[· % zv.cells.size]!)).toList.length = sz := by simp
    rw [← Array.toArray_toList (xs := (Array.range (1 * sz)).map _)]
    rw [fill_one (off := 0) (vs := cs) (by simp [hl]) hv (by rw [hsz]; omega)]
    rw [Instr.fill, spl_whole (by rw [hsz, hl])]
  have hsz1 : ¬ (1 * sz > 2 ^ 24) := by omega
  have hsz2 : ¬ (1 * sz = 0) := by omega
  simp only [Instr.buildSlice, Sem.run_bind, run_underlying ht, Result.andThen_ok, run_szO hs]
  rw [if_neg hsz1, if_neg hsz2]
  simp only [Sem.run_bind, Sem.run_pure, run_zO hz, Result.andThen_ok, hf]
  rfl
theorem J.bs1 {sz : Nat} {zv : Value} {cs : List Value} (ho : o.op = .buildSlice t 1 #[(0, x)]) (hg : o.guard = none) (hd : o.dst = some d) (hn : Nat.ble (d + 1) c.n = true) (hx : ev tm x = some v)
    (ht : c.P.underlying t = some (.slice e)) (hz : zO c.P e = some zv) (hs : szO c.P e = some sz) (hzs : zv.cells.size = sz) (h0 : 0 < sz ∧ sz ≤ 1000) (hv : v.cells = cs.toArray) (hl : cs.length = sz)
    (h : ∀ g, J c ops Q l ((d, .slice (some ⟨g, 0, none⟩) 1 1) :: tm) (.box g e cs :: C) F) : J c ops Q (o :: l) tm C F :=
  J.ef (S' := True) hg hd hn fun ac w hag hst => ⟨.slice (some ⟨w.heap.size, 0, none⟩) 1 1, w.alloc (.cells cs.toArray e), by
      have := run_bs1 (P := c.P) (w := w) ht hz hs hzs h0.1 h0.2 hv hl
      simp only [execOp, ho, List.map_toArray, List.map_cons, List.map_nil, hag.ev hx, Sem.run_bind, this]; rfl,
    _, _, hst.push (Fr.alloc _ _ _) (box_new w e cs) (fun k hk => by simp only [Chunk.own, Option.some.injEq] at hk; omega), h _⟩
theorem spl_take {cur vs : List Value} {k N : Nat} (h : k + vs.length ≤ N) : (spl cur k vs).toArray.toList.take N = spl (cur.take N) k vs := by
  by_cases hN : N ≤ cur.length
  · simp only [spl]
    have l1 : (cur.take k ++ vs).length = k + vs.length := by rw [List.length_append, List.length_take]; omega
    rw [List.take_append, List.take_of_length_le (by omega), l1, List.take_take, List.drop_take, Nat.min_eq_left (by omega)]
  · rw [List.take_of_length_le (l := cur) (by omega)]
    apply List.take_of_length_le
    simp [spl]
    omega
/-- arr[lo:] of an own block, its elements of one cell. -/
theorem y_cutarr1 {g n : Nat} {k : IntKind} {a : Int} {xl : Operand} (j : Nat) (ho : o.op = .slice t x (some xl) none none) (ht : c.P.underlying t = some (.array n e)) (hz : szO c.P e = some 1) (hx : ev tm x = some (.pointer (some ⟨g, 0, none⟩))) (hl : ev tm xl = some (.int k a)) (ha : a = j) (h : j < n) :
    Yl c tm C F o (.slice (some ⟨g, j, none⟩) (n - j) (n - j)) := fun ac w hag _ => by
  subst ha
  simp only [execOp, ho, hag.ev hx, hag.ev hl, Option.map_some, Option.map_none, Instr.sliceAt, Sem.run_bind, run_underlying ht, Result.andThen_ok, Instr.sureAddr, Instr.sliceBounds, Sem.run_pure, Option.isSome_none, Bool.false_eq_true, if_false]
  rw [run_sliceBound w k j _ _ (by omega) (by omega)]
  simp only [Result.andThen_ok, run_szO hz, Int.toNat_natCast, Nat.mul_one]
  rw [if_neg (by omega), Addr.add_lit, Nat.zero_add]
/-- A store into a row of one's own. -/
theorem J.storeR {n k cap sz : Nat} {A : Option Addr} {xs vs xs' : List Value} (i : Nat) (ho : o.op = .store t x y) (hg : o.guard = none) (hd : o.dst = none) (hx : ev tm x = some (.pointer (some ((gA A).add k)))) (hy : ev tm y = some v) (hC : C[i]? = some (.row (.slice A n cap) e sz n xs))
    (hv : v.cells = vs.toArray) (hz : szO c.P t = some vs.length) (hl : k + vs.length ≤ xs.length) (h0 : vs ≠ []) (h1 : ∀ u ∈ vs, u.oneCell' = true) (hcs : spl xs k vs = xs')
    (h : J c ops Q l tm (C.set i (.row (.slice A n cap) e sz n xs')) F) : J c ops Q (o :: l) tm C F :=
  J.eu hg hd fun a w ha hs => by
    have hsat : w.ownsRow 0 e sz (.slice A n cap) n xs := hs.get hC
    obtain ⟨hlen, hr⟩ := hsat
    have hvl : vs.length ≠ 0 := by simpa using h0
    rcases hr with ⟨_, rfl⟩ | ⟨g, cap', cur, hsl, hg0, hh, hnc, hcm, hcs', htk⟩
    · rw [Nat.zero_mul] at hlen; omega
    · injection hsl with e1 e2 e3
      subst e1; subst e3
      have hcl : n * sz ≤ cur.size := by rw [hcs']; exact Nat.mul_le_mul_right _ hnc
      have hst : (storeVar t ⟨g, k, none⟩ v).run c.P w = .ok () (w.setRow g (spl cur.toList k vs).toArray) := by
        have := run_storeCells_at c.P g k e vs 0 cur w hh (by omega) h1
        simp [storeVar, run_szO hz, hv, this, spl]
      refine ⟨w.setRow g (spl cur.toList k vs).toArray, ?_, _, _, hs.upd hC (y := .row (.slice (some ⟨g, 0, none⟩) n cap) e sz n xs') (Fr.setRow w g _) ?_ (fun j hj => .inl hj), h⟩
      · have e0 : (gA (some (⟨g, 0, none⟩ : Addr))).add k = ⟨g, k, none⟩ := by simp [gA, Addr.add_lit]
        simp only [execOp, ho, ha.ev hx, ha.ev hy, e0, Instr.storeAt, Instr.sureAddr, Sem.run_bind, Sem.run_pure, Result.andThen_ok, hst]
      · have hln : (spl cur.toList k vs).length = cur.size := by simp [spl]; omega
        refine ⟨by rw [← hcs, ← hlen]; simp [spl]; omega, .inr ⟨g, cap, _, rfl, hg0, setRow_heap w g _ _ e _ hh, hnc, hcm, by simpa [hln] using hcs', ?_⟩⟩
        rw [← hcs, ← htk]
        exact spl_take (by omega)
/-- copy(dst, s): into an own block. -/
theorem J.copyS {g off n m k : Nat} {ty tt : TypeId} {cs : List Value} {s : List UInt8} {cs' : List Value} (i : Nat) (ho : o.op = .call { callee := .builtin .copy, args := #[x, y], argTypes := #[t, ty] }) (hg : o.guard = none) (hd : o.dst = some d) (hn : Nat.ble (d + 1) c.n = true)
    (hx : ev tm x = some (.slice (some ⟨g, off, none⟩) n k)) (hy : ev tm y = some (str s)) (ht : c.P.underlying t = some (.slice e)) (hs : szO c.P e = some 1) (hC : C[i]? = some (.box g tt cs))
    (hm : min s.length n = m) (hl : off + m ≤ cs.length) (hcs : spl cs off ((s.take m).map u8) = cs')
    (h : J c ops Q l ((d, .int .i64 m) :: tm) (C.set i (.box g tt cs')) F) : J c ops Q (o :: l) tm C F :=
  J.ef (S' := True) hg hd hn fun a w ha hst => by
    have hsat := hst.get hC
    have hh : w.heap[g]? = some (.cells cs.toArray tt (0, 0)) := hsat
    refine ⟨.int .i64 m, w.setRow g cs'.toArray, ?_, _, _, hst.upd hC (y := .box g tt cs') (Fr.setRow w g _) (setRow_heap w g _ _ tt _ hh) (fun k hk => .inl hk), h⟩
    have hlen : ((s.take m).map u8).length = m := by rw [List.length_map, List.length_take]; omega
    have hstc := run_storeCells_at c.P g off tt ((s.take m).map u8) 0 cs.toArray w hh (by rw [hlen]; simpa using hl) (by intro u hu; obtain ⟨b, _, rfl⟩ := List.mem_map.1 hu; rfl)
    have hfc : ((⟨s.toArray⟩ : ByteArray).extract 0 m).data.map (fun b => Value.int .u8 b.toNat) = ((s.take m).map u8).toArray := by
      rw [extract_str]
      apply Array.ext'
      simp
      rfl
    have hmm : Nat.min s.length n = m := hm
    simp only [execOp, ho, resolve, invoke, builtin, Sem.run_bind, Sem.run_pure, Result.andThen_ok, List.map_toArray, List.map_cons, List.map_nil, ha.ev hx, ha.ev hy]
    simp only [Builtin.copy_, str, List.getElem?_toArray, List.getElem?_cons_zero, List.getElem?_cons_succ, Sem.run_bind, run_underlying ht, Result.andThen_ok, Builtin.lenOf, Sem.run_pure, size_str, hmm, run_szO hs, Builtin.firstCells, hfc]
    rw [hstc, ← hcs]
    simp [spl, hlen, goInt]
/-! ### []byte(s) -/
theorem J.s2b {s : List UInt8} (ho : o.op = .convert t t' x) (hg : o.guard = none) (hd : o.dst = some d) (hn : Nat.ble (d + 1) c.n = true) (hs : c.P.underlying t = some .string) (ht : c.P.underlying t' = some (.slice e)) (he : c.P.underlying e = some (.int .u8)) (hx : ev tm x = some (str s)) (hl : s.length ≤ 4000000000000)
    (h : ∀ A k, J c ops Q l ((d, .slice A s.length k) :: tm) (.fro (.slice A s.length k) e s.length (s.map u8) :: C) F) : J c ops Q (o :: l) tm C F :=
  J.ef (S' := True) hg hd hn fun a w ha hst => by
    have hr := run_bytes_of_string (P := c.P) w t t' e ⟨s.toArray⟩ hs ht he
    rw [size_str] at hr
    have hge : s.length ≤ grownCap w s.length 0 e := grownCap_ge w s.length 0 e
    have hbs : (bytesRow ⟨s.toArray⟩ (grownCap w s.length 0 e)).size = grownCap w s.length 0 e := by
      simp only [bytesRow, Array.size_append, Array.size_map, Array.size_replicate, size_str]
      simp
      omega
    have hall : Fr No w (w.drew.alloc (.cells (bytesRow ⟨s.toArray⟩ (grownCap w s.length 0 e)) e ((bytesRow ⟨s.toArray⟩ (grownCap w s.length 0 e)).size, (bytesRow ⟨s.toArray⟩ (grownCap w s.length 0 e)).size + 1))) :=
      ⟨rfl, rfl, rfl, by simp, fun k hk _ => heap_alloc_old w.drew _ hk⟩
    refine ⟨_, _, ?_, _, _, hst.push hall (x := .fro (.slice (some ⟨w.heap.size, 0, none⟩) s.length (grownCap w s.length 0 e)) e s.length (s.map u8)) (.inl ⟨by simp, w.heap.size, _, by rw [hbs], heap_alloc_new w.drew _, by rw [hbs]; exact hge, by
        rw [hbs]; exact grownCap_le_maxLen w _ 0 e (by unfold maxLen; omega), ?_⟩) (fun k hk => by simp only [Chunk.own, Value.ownBlock, Option.some.injEq] at hk; omega), h _ _⟩
    · simp only [execOp, ho, ha.ev hx, str, Sem.run_bind, hr]; rfl
    · simp only [bytesRow, Array.toList_append, Array.toList_map, Array.toList_replicate]
      rw [List.take_append_of_le_length (by simp), List.take_of_length_le (by simp)]
      simp [u8]
theorem storeCells_fro (P : Program) (g o : Nat) (t : TypeId) (z : Nat × Nat) : ∀ (vs : List Value) (i : Nat) (cur : Array Value) (w : World), w.heap[g]? = some (.cells cur t z) → o + i + vs.length ≤ cur.size → cur.size ≤ z.1 → (∀ v ∈ vs, v.oneCell' = true) →
    ∃ w', (storeCells ⟨g, o, none⟩ vs i).run P w = .ok () w' ∧ w'.heap[g]? = some (.cells (cur.toList.take (o + i) ++ vs ++ cur.toList.drop (o + i + vs.length)).toArray t z) ∧ Fr (fun k => some g = some k) w w'
  | [], i, cur, w, hg, _, _, _ => ⟨w, rfl, by simpa using hg, Fr.refl _ _⟩
  | v :: rest, i, cur, w, hg, hl, hz, h1 => by
    have hi : o + i < cur.size := by simp at hl; omega
    have hadd : (⟨g, o, none⟩ : Addr).add i = ⟨g, o + i, none⟩ := by unfold Addr.add; split <;> simp_all
    have hcell : w.cell? ⟨g, o + i, none⟩ = some cur[o + i] := by simp [World.cell?, hg, hi]
    have hfro : w.frozen? ⟨g, o + i, none⟩ = false := by
      simp only [World.frozen?, hg]
      simp; omega
    have hset : (w.setCell ⟨g, o + i, none⟩ v).heap[g]? = some (.cells (cur.setIfInBounds (o + i) v) t z) := by
      simp only [World.setCell, Array.getElem?_modify, if_true, hg]
      rfl
    have hst : (store ((⟨g, o, none⟩ : Addr).add i) v).run P w = .ok () (w.setCell ⟨g, o + i, none⟩ v) := by
      rw [hadd, run_store P w _ v _ (h1 v (by simp)), hcell]
      simp [hfro]
    obtain ⟨w', h2, h3, h4⟩ := storeCells_fro P g o t z rest (i + 1) (cur.setIfInBounds (o + i) v) (w.setCell ⟨g, o + i, none⟩ v) hset (by simp at hl ⊢; omega) (by simpa using hz) (fun x hx => h1 x (by simp [hx]))
    refine ⟨w', by simp only [storeCells, Sem.run_bind, hst, Result.andThen_ok, h2], ?_, ((Fr.setCell w ⟨g, o + i, none⟩ v).mono fun k hk => by rw [hk]).trans h4⟩
    rw [h3]
    congr 3
    have e := list_seg_step cur.toList (o + i) v rest (by simp at hl ⊢; omega)
    simpa [Array.toList_setIfInBounds, Nat.add_assoc] using e
theorem J.appendB {n m n' kc by' : Nat} {zv : Value} {xs news xs' : List Value} (i : Nat) (ho : o.op = .call { callee := .builtin .append, args := #[x, y], argTypes := #[t, t] }) (hg : o.guard = none) (hd : o.dst = some d) (hn : Nat.ble (d + 1) c.n = true)
    (hx : ev tm x = some v) (hy : ev tm y = some (.slice (some ⟨kc, 0, none⟩) m m)) (ht : c.P.underlying t = some (.slice e)) (hz : zO c.P e = some zv) (hs : szO c.P e = some 1) (hb : byO c.P e = some by') (hzs : zv.cells.size = 1)
    (hC : C[i]? = some (.fro v e n xs)) (hl : news.length = m) (hsl : ∀ w, St c w C F → At w ⟨kc, 0, none⟩ news) (h1 : ∀ u ∈ news, u.oneCell' = true) (hm : n + m ≤ 4000000000000) (hby : by' ≤ 35) (hn' : n + m = n') (hxs' : xs ++ news = xs')
    (h : ∀ A k, J c ops Q l ((d, .slice A n' k) :: tm) (C.set i (.fro (.slice A n' k) e n' xs')) F) : J c ops Q (o :: l) tm C F := by
  subst hn'; subst hxs'
  exact J.ef (S' := True) hg hd hn fun a w ha hst => by
    have hbb : (n + m) * by' ≤ 140737488355328 := Nat.le_trans (Nat.mul_le_mul hm hby) (by decide)
    have hml : n + m ≤ maxLen := by unfold maxLen; omega
    have hnews : ∀ j u, news[j]? = some u → w.cell? ((⟨kc, 0, none⟩ : Addr).add j) = some u := hsl w hst
    obtain ⟨ti, hi, hiz, his, hib⟩ := info_of hz hs hb
    have hex : ∀ q : Result Value, (Builtin.append_ #[t, t] o.type #[v, .slice (some ⟨kc, 0, none⟩) m m]).run c.P w = q → ∀ v' w', q = .ok v' w' → (execOp a.eval o).run c.P w = .ok (.value v') w' := by
      rintro _ rfl v' w' hq
      simp only [execOp, ho, resolve, invoke, builtin, Sem.run_bind, Sem.run_pure, Result.andThen_ok, List.map_toArray, List.map_cons, List.map_nil, ha.ev hx, ha.ev hy, hq]
    rcases hst.get hC with ⟨hlen, g, cur, rfl, hh, hnc, hcm, htk⟩ | hrow
    · by_cases hroom : n + m ≤ cur.size
      · have hf := run_firstCells_some (P := c.P) w 1 m ⟨kc, 0, none⟩ m m news (by omega) hnews
        obtain ⟨w', h2, h3, h4⟩ := storeCells_fro c.P g n e (cur.size, cur.size + 1) news 0 cur w hh (by omega) (Nat.le_refl _) h1
        have hln : (cur.toList.take n ++ news ++ cur.toList.drop (n + news.length)).length = cur.size := by simp; omega
        have hsz : (cur.toList.take n ++ news ++ cur.toList.drop (n + news.length)).toArray.size = cur.size := List.size_toArray.trans hln
        refine ⟨.slice (some ⟨g, 0, none⟩) (n + m) cur.size, w', hex _ rfl _ _ ?_, _, _, hst.upd hC (y := .fro (.slice (some ⟨g, 0, none⟩) (n + m) cur.size) e (n + m) (xs ++ news)) h4 (.inl ⟨by simp; omega, g, (cur.toList.take n ++ news ++ cur.toList.drop (n + news.length)).toArray, by rw [hsz], by
            rw [h3, hsz]; rfl, by rw [hsz]; omega, by rw [hsz]; omega, ?_⟩) (fun k hk => .inl hk), h _ _⟩
        · simp [Builtin.append_, run_underlying ht, sizeOf, typeInfo, hi, his, Builtin.lenOf, hroom, hf, Addr.add_lit, h2]
        · simp only [List.toList_toArray]
          rw [htk, List.take_append_of_le_length (by simp; omega), List.take_of_length_le (by simp; omega)]
      · have holds : ∀ j u, xs[j]? = some u → w.cell? ((⟨g, 0, none⟩ : Addr).add j) = some u := fun j u hj => by
          rw [Addr.add_lit, Nat.zero_add, cell_of_row w g j _ e _ hh]
          rw [← htk, List.getElem?_take] at hj
          split at hj
          · simpa using hj
          · cases hj
        have hr := run_append_grow (P := c.P) w t o.type e ti zv ht hi hiz ⟨g, 0, none⟩ n cur.size xs (by rw [his]; omega) holds ⟨kc, 0, none⟩ m m news (by rw [his]; omega) hnews (by omega) (by omega) (growslice_fits (by omega) (by rw [hib]; exact hbb))
        have hge := grownCap_ge w (n + m) cur.size e
        refine ⟨_, _, hex _ rfl _ _ hr, _, _, hst.upd hC (y := .fro (.slice (some ⟨w.heap.size, 0, none⟩) (n + m) (grownCap w (n + m) cur.size e)) e (n + m) (xs ++ news)) (Fr.grown ⟨rfl, rfl, rfl, by simp, fun k hk _ => heap_alloc_old w.drew _ hk⟩) (.inr ⟨by simp; omega, .inr ⟨w.heap.size, _, _, rfl, Nat.zero_le _, heap_alloc_new w.drew _, hge, grownCap_le_maxLen w _ _ e hml, ?_, ?_⟩⟩) (fun k hk => by simp only [Chunk.own, Value.ownBlock, Option.some.injEq] at hk; exact .inr (by omega)), h _ _⟩
        · simp only [Array.size_append, List.size_toArray, size_zeroCells, hzs]; omega
        · simp only [Array.toList_append, List.append_assoc, List.toList_toArray]
          rw [← List.append_assoc, List.take_append_of_le_length (by simp; omega), List.take_of_length_le (by simp; omega)]
    · obtain ⟨v', w', hr, hrow', hgr, hbl⟩ := run_append' (P := c.P) (w := w) (ty := o.type) (kc := m) (B := some ⟨kc, 0, none⟩) ht hz hs hb hzs (by decide) hrow (by omega) (.inr ⟨rfl, hnews⟩) h1 hml hbb
      obtain ⟨A, k, rfl, hA, _⟩ := slice_of_row hrow'
      refine ⟨_, w', hex _ rfl _ _ hr, _, _, hst.upd hC (y := .fro (.slice A (n + m) k) e (n + m) (xs ++ news)) (Fr.grown hgr) (.inr hrow') (fun g hg' => ?_), h A k⟩
      rcases hbl with h' | h'
      · exact .inl (show v.ownBlock = some g from h'.symm.trans hg')
      · simp only [Chunk.own] at hg'; rw [h'] at hg'; injection hg' with hg'; exact .inr (by omega)
theorem Sl.of_fro {w : World} {A : Option Addr} {n k : Nat} {xs : List Value} (h : (Chunk.fro (.slice A n k) e n xs).sat w) : Sl w A xs := by
  rcases h with ⟨h1, g, cur, hv, hh, hnc, hcm, htk⟩ | h
  · injection hv with e1 e2 e3
    subst e1
    refine .inr ⟨rfl, fun j u hj => ?_⟩
    simp only [gA, Option.getD_some]
    rw [Addr.add_lit, Nat.zero_add, cell_of_row w g j _ e _ hh]
    rw [← htk, List.getElem?_take] at hj
    split at hj
    · simpa using hj
    · cases hj
  · exact Sl.of_row h
/-- An element of a slice, loaded. -/
theorem y_lsl {A : Option Addr} {k : Nat} {xs : List Value} (ho : o.op = .load t x) (hg : aggO c.P t = some false) (hx : ev tm x = some (.pointer (some ((gA A).add k)))) (hr : ∀ w, St c w C F → Sl w A xs) (hv : xs[k]? = some v) : Yl c tm C F o v :=
  y_load1 ho hg hx fun w hs => (((hr w hs).at_ (by rintro rfl; cases hv)) k v hv)
theorem y_lslA {A : Option Addr} {k : Nat} {xs vs : List Value} (ho : o.op = .load t x) (hg : aggO c.P t = some true) (hs : szO c.P t = some vs.length) (hx : ev tm x = some (.pointer (some ((gA A).add k)))) (hr : ∀ w, St c w C F → Sl w A xs) (hv : (xs.drop k).take vs.length = vs) (h0 : vs ≠ []) : Yl c tm C F o (.agg vs.toArray) :=
  y_loadA ho hg hs hx fun w hst => ((hr w hst).at_ (by rintro rfl; simp at hv; exact h0 (by first | exact hv | exact hv.symm))).sub hv
theorem get_mul_one {xs : List Value} {j : Nat} {v : Value} (h : xs[j]? = some v) : xs[j * 1]? = some v := by rwa [Nat.mul_one]
theorem get_bytes {l : List UInt8} {j : Nat} (h : j < l.length) : (l.map u8)[j * 1]? = some (u8 (l.getD j 0)) := by
  rw [Nat.mul_one, List.getElem?_map, List.getElem?_eq_getElem h, List.getD_eq_getElem?_getD, List.getElem?_eq_getElem h]; rfl
/-! ### literals of arrays and structs -/
def evp (tm : Env) : List (Nat × Operand) → Option (List (Nat × Value))
  | [] => some []
  | p :: r => match ev tm p.2, evp tm r with
    | some v, some vs => some ((p.1, v) :: vs)
    | _, _ => none
theorem Ag.evp {n : Nat} {a : Act} {tm : Env} {xs : List (Nat × Operand)} {vs : List (Nat × Value)} (h : Ag n a tm) (hx : evp tm xs = some vs) : (xs.map fun p => (p.1, a.eval p.2)) = vs := by
  induction xs generalizing vs with
  | nil => cases hx; rfl
  | cons x r ih =>
    simp only [Sx.evp] at hx
    split at hx
    · rename_i v us h1 h2
      injection hx with hx
      subst hx
      rw [List.map_cons, h.ev h1, ih h2]
    · cases hx
/-- Where a struct's fields lie. -/
def plO (P : Program) (t : TypeId) : Option (List (Nat × Nat)) := match P.underlying t with
  | some (.struct fields) => fields.toList.mapM fun f => (szO P f.type).map fun n => (f.offset, n)
  | _ => none
theorem run_places {P : Program} {w : World} {fields : List Field} {pl : List (Nat × Nat)} (h : (fields.mapM fun f => (szO P f.type).map fun n => (f.offset, n)) = some pl) :
    ((fields.mapM fun f => do pure (f.offset, ← sizeOf f.type)) : Sem (List (Nat × Nat))).run P w = .ok pl w := by
  induction fields generalizing pl with
  | nil => cases h; rfl
  | cons f r ih =>
    rw [List.mapM_cons] at h
    cases hs : szO P f.type with
    | none => rw [hs] at h; cases h
    | some n =>
      rw [hs] at h
      cases hr : (r.mapM fun f => (szO P f.type).map fun n => (f.offset, n)) with
      | none => rw [hr] at h; cases h
      | some pl' =>
        rw [hr] at h
        cases h
        rw [List.mapM_cons]
        simp only [Sem.run_bind, run_szO hs, Result.andThen_ok, Sem.run_pure, ih hr]
theorem y_buildA {parts : Array (Nat × Operand)} {n sz : Nat} {zs cs : List Value} {ps : List (Nat × Value)} (ho : o.op = .build t parts) (ht : c.P.underlying t = some (.array n e)) (hz : zO c.P t = some (.agg zs.toArray)) (hs : szO c.P e = some sz) (hp : evp tm parts.toList = some ps)
    (hf : Instr.fill (fun i => some (i * sz, sz)) zs.toArray ps = some cs.toArray) : Yl c tm C F o (.agg cs.toArray) := fun a w ha _ => by
  have h1 : (parts.map fun (i, x) => (i, a.eval x)).toList = ps := by
    rw [Array.toList_map]; exact ha.evp hp
  simp only [execOp, ho, Instr.build, Sem.run_bind, run_zO hz, Result.andThen_ok, run_underlying ht, run_szO hs, Value.cells, h1, hf]
  rfl
theorem y_buildS {parts : Array (Nat × Operand)} {pl : List (Nat × Nat)} {zs cs : List Value} {ps : List (Nat × Value)} (ho : o.op = .build t parts) (ht : plO c.P t = some pl) (hz : zO c.P t = some (.agg zs.toArray)) (hp : evp tm parts.toList = some ps)
    (hf : Instr.fill (fun i : Nat => pl[i]?) zs.toArray ps = some cs.toArray) : Yl c tm C F o (.agg cs.toArray) := fun a w ha _ => by
  unfold plO at ht
  split at ht
  · rename_i fields hu
    have h1 : (parts.map fun (i, x) => (i, a.eval x)).toList = ps := by
      rw [Array.toList_map]; exact ha.evp hp
    have h2 := run_places (w := w) ht
    simp only [execOp, ho, Instr.build, Sem.run_bind, run_zO hz, Result.andThen_ok, hu, run_underlying hu, Value.cells, h1, Array.mapM_eq_mapM_toList]
    have h3 : (fun x : Nat => pl.toArray[x]?) = fun i : Nat => pl[i]? := by funext i; simp
    simp only [Sem.run_map, h2, Sem.run_bind, Sem.run_pure, Result.andThen_ok, h3, hf]
  · cases ht
end
end Go.Sx
namespace Go.Sx
open Go Go.RowKit
set_option linter.unusedVariables false
set_option linter.unusedSimpArgs false

def rotr (x : UInt32) (k : Nat) : UInt32 := x <<< UInt32.ofNat (32 - k) ||| x >>> UInt32.ofNat k
def sg0 (x : UInt32) : UInt32 := rotr x 7 ^^^ rotr x 18 ^^^ x >>> UInt32.ofNat 3
def sg1 (x : UInt32) : UInt32 := rotr x 17 ^^^ rotr x 19 ^^^ x >>> UInt32.ofNat 10
def w4 (a b c d : UInt8) : UInt32 := a.toUInt32 <<< UInt32.ofNat 24 + b.toUInt32 <<< UInt32.ofNat 16 + c.toUInt32 <<< UInt32.ofNat 8 + d.toUInt32
def getW (m : List UInt8) (i : Nat) : UInt32 := w4 (m.getD (4 * i) 0) (m.getD (4 * i + 1) 0) (m.getD (4 * i + 2) 0) (m.getD (4 * i + 3) 0)
def wv (m : List UInt8) (l : List UInt32) (n : Nat) : UInt32 := if n < 16 then getW m n else l.getD (n - 16) 0 + l.getD (n - 7) 0 + sg0 (l.getD (n - 15) 0) + sg1 (l.getD (n - 2) 0)
/-- The first n words of the schedule. -/
def wl (m : List UInt8) : Nat → List UInt32
  | 0 => []
  | n + 1 => wl m n ++ [wv m (wl m n) n]
theorem length_wl (m : List UInt8) (n : Nat) : (wl m n).length = n := by
  induction n with
  | zero => rfl
  | succ n ih => simp [wl, ih]
structure V8 where
  a : UInt32
  b : UInt32
  c : UInt32
  d : UInt32
  e : UInt32
  f : UInt32
  g : UInt32
  h : UInt32
def V8.l (v : V8) : List UInt32 := [v.a, v.b, v.c, v.d, v.e, v.f, v.g, v.h]
/-- The cells of eight words. -/
def vc (v : V8) : List Value := [u32 v.a, u32 v.b, u32 v.c, u32 v.d, u32 v.e, u32 v.f, u32 v.g, u32 v.h]
def vv (v : V8) : Value := .agg (vc v).toArray
theorem vc_map (v : V8) : vc v = v.l.map u32 := rfl
def tT (v : V8) (k w : UInt32) : UInt32 := v.h + (rotr v.e 6 ^^^ rotr v.e 11 ^^^ rotr v.e 25) + (v.e &&& v.f ^^^ ~~~v.e &&& v.g) + k + w
def tU (v : V8) : UInt32 := (rotr v.a 2 ^^^ rotr v.a 13 ^^^ rotr v.a 22) + (v.a &&& v.b ^^^ v.a &&& v.c ^^^ v.b &&& v.c)
def rd (v : V8) (k w : UInt32) : V8 := ⟨tT v k w + tU v, v.a, v.b, v.c, v.d + tT v k w, v.e, v.f, v.g⟩
def kk : List UInt32 := [
    0x428a2f98, 0x71374491, 0xb5c0fbcf, 0xe9b5dba5, 0x3956c25b, 0x59f111f1, 0x923f82a4, 0xab1c5ed5,
    0xd807aa98, 0x12835b01, 0x243185be, 0x550c7dc3, 0x72be5d74, 0x80deb1fe, 0x9bdc06a7, 0xc19bf174,
    0xe49b69c1, 0xefbe4786, 0x0fc19dc6, 0x240ca1cc, 0x2de92c6f, 0x4a7484aa, 0x5cb0a9dc, 0x76f988da,
    0x983e5152, 0xa831c66d, 0xb00327c8, 0xbf597fc7, 0xc6e00bf3, 0xd5a79147, 0x06ca6351, 0x14292967,
    0x27b70a85, 0x2e1b2138, 0x4d2c6dfc, 0x53380d13, 0x650a7354, 0x766a0abb, 0x81c2c92e, 0x92722c85,
    0xa2bfe8a1, 0xa81a664b, 0xc24b8b70, 0xc76c51a3, 0xd192e819, 0xd6990624, 0xf40e3585, 0x106aa070,
    0x19a4c116, 0x1e376c08, 0x2748774c, 0x34b0bcb5, 0x391c0cb3, 0x4ed8aa4a, 0x5b9cca4f, 0x682e6ff3,
    0x748f82ee, 0x78a5636f, 0x84c87814, 0x8cc70208, 0x90befffa, 0xa4506ceb, 0xbef9a3f7, 0xc67178f2]
def v0 : V8 := ⟨0x6a09e667, 0xbb67ae85, 0x3c6ef372, 0xa54ff53a, 0x510e527f, 0x9b05688c, 0x1f83d9ab, 0x5be0cd19⟩
def rs (m : List UInt8) (v : V8) : Nat → V8
  | 0 => v
  | n + 1 => rd (rs m v n) (kk.getD n 0) ((wl m 64).getD n 0)
def V8.add (w v : V8) : V8 := ⟨v.a + w.a, v.b + w.b, v.c + w.c, v.d + w.d, v.e + w.e, v.f + w.f, v.g + w.g, v.h + w.h⟩
def comp (v : V8) (m : List UInt8) : V8 := (rs m v 64).add v
def bls : Nat → V8 → List UInt8 → V8
  | 0, v, _ => v
  | n + 1, v, m => bls n (comp v (m.take 64)) (m.drop 64)
/-- The low k bytes of a number, the highest one first. -/
def putB (n : UInt64) : Nat → List UInt8
  | 0 => []
  | k + 1 => (n >>> UInt64.ofNat (8 * k)).toUInt8 :: putB n k
theorem length_putB (n : UInt64) (k : Nat) : (putB n k).length = k := by
  induction k with
  | zero => rfl
  | succ k ih => simp [putB, ih]
def padN (n : Nat) : Nat := (119 - n % 64) % 64
def padded (s : List UInt8) : List UInt8 := s ++ [0x80] ++ List.replicate (padN s.length) 0 ++ putB (UInt64.ofNat s.length * 8) 8
theorem length_padded (s : List UInt8) : (padded s).length = s.length + 9 + padN s.length := by
  simp [padded, length_putB]; omega
theorem padded_64 (s : List UInt8) : (padded s).length % 64 = 0 := by
  rw [length_padded]
  unfold padN
  omega
def out (v : V8) : List UInt8 := v.l.flatMap fun x => putB x.toUInt64 4
theorem length_out (v : V8) : (out v).length = 32 := by simp [out, V8.l, length_putB]
def sha (s : List UInt8) : H := ⟨out (bls ((padded s).length / 64) v0 (padded s)), length_out _⟩

theorem u32s1 (l : List UInt32) : ∀ u ∈ l.map u32, u.oneCell' = true := by
  intro u hu
  obtain ⟨x, _, rfl⟩ := List.mem_map.1 hu
  rfl
theorem one_vc (v : V8) : ∀ u ∈ vc v, u.oneCell' = true := u32s1 v.l
/-! ### how code puts it -/
def mixl (w v : V8) (i : Nat) : List UInt32 := (w.add v).l.take i ++ w.l.drop i
theorem mixl_get (w v : V8) (i : Nat) (h : i < 8) : ((mixl w v i).map u32)[i]? = some (u32 (w.l.getD i 0)) := by
  match i, h with
  | 0, _ => rfl
  | 1, _ => rfl
  | 2, _ => rfl
  | 3, _ => rfl
  | 4, _ => rfl
  | 5, _ => rfl
  | 6, _ => rfl
  | 7, _ => rfl
theorem l_get (v : V8) (i : Nat) (h : i < 8) : (vc v)[i]? = some (u32 (v.l.getD i 0)) := by
  match i, h with
  | 0, _ => rfl
  | 1, _ => rfl
  | 2, _ => rfl
  | 3, _ => rfl
  | 4, _ => rfl
  | 5, _ => rfl
  | 6, _ => rfl
  | 7, _ => rfl
theorem mixl_set (w v : V8) (i : Nat) (h : i < 8) : ((mixl w v i).map u32).set i (u32 (w.l.getD i 0 + v.l.getD i 0)) = (mixl w v (i + 1)).map u32 := by
  rw [UInt32.add_comm]
  match i, h with
  | 0, _ => rfl
  | 1, _ => rfl
  | 2, _ => rfl
  | 3, _ => rfl
  | 4, _ => rfl
  | 5, _ => rfl
  | 6, _ => rfl
  | 7, _ => rfl
theorem mixl_len (w v : V8) (i : Nat) (h : i ≤ 8) : (mixl w v i).length = 8 := by
  simp [mixl, V8.l]; omega
theorem kk_get (i : Nat) (h : i < 64) : (kk.map u32)[i]? = some (u32 (kk.getD i 0)) := by
  have hl : i < kk.length := h
  rw [List.getElem?_map, List.getElem?_eq_getElem hl, List.getD_eq_getElem?_getD, List.getElem?_eq_getElem hl]; rfl

def getB (l : List UInt8) : UInt64 := l.foldl (fun n b => n <<< UInt64.ofNat 8 + b.toUInt64) 0
theorem getB_append (l : List UInt8) (b : UInt8) : getB (l ++ [b]) = getB l <<< UInt64.ofNat 8 + b.toUInt64 := by simp [getB]
theorem getB_succ (l : List UInt8) {i : Nat} (h : i < l.length) : getB (l.take (i + 1)) = getB (l.take i) <<< UInt64.ofNat 8 + (l.getD i 0).toUInt64 := by
  rw [List.take_add_one, List.getElem?_eq_getElem h, Option.toList_some, getB_append, List.getD_eq_getElem?_getD, List.getElem?_eq_getElem h]; rfl
theorem getB4 (a b c d : UInt8) : (getB [a, b, c, d]).toUInt32 = w4 a b c d := by
  apply UInt32.toNat_inj.1
  have ha := a.toNat_lt
  have hb := b.toNat_lt
  have hc := c.toNat_lt
  have hd := d.toNat_lt
  simp only [getB, List.foldl_cons, List.foldl_nil, w4, UInt64.toNat_toUInt32, UInt64.toNat_add, UInt64.toNat_shiftLeft, UInt32.toNat_add, UInt32.toNat_shiftLeft, UInt8.toNat_toUInt64, UInt8.toNat_toUInt32, UInt64.toNat_ofNat', UInt32.toNat_ofNat', Nat.shiftLeft_eq]
  simp only [show 8 % 2 ^ 64 % 64 = 8 by decide, show 24 % 2 ^ 32 % 32 = 24 by decide, show 16 % 2 ^ 32 % 32 = 16 by decide, show 8 % 2 ^ 32 % 32 = 8 by decide, show (0 : UInt64).toNat = 0 by rfl]
  omega
theorem cut4 (m : List UInt8) (i : Nat) (h : 4 * i + 4 ≤ m.length) : (m.take (4 * i + 4)).drop (4 * i) = [m.getD (4 * i) 0, m.getD (4 * i + 1) 0, m.getD (4 * i + 2) 0, m.getD (4 * i + 3) 0] := by
  apply List.ext_getElem?
  intro j
  rw [List.getElem?_drop, List.getElem?_take]
  match j with
  | 0 => rw [if_pos (by omega)]; simp [List.getElem?_eq_getElem (show 4 * i < m.length by omega)]
  | 1 => rw [if_pos (by omega)]; simp [List.getElem?_eq_getElem (show 4 * i + 1 < m.length by omega)]
  | 2 => rw [if_pos (by omega)]; simp [List.getElem?_eq_getElem (show 4 * i + 2 < m.length by omega)]
  | 3 => rw [if_pos (by omega)]; simp [List.getElem?_eq_getElem (show 4 * i + 3 < m.length by omega)]
  | j + 4 => rw [if_neg (by omega)]; simp
theorem getW_cut (m : List UInt8) (i : Nat) (h : 4 * i + 4 ≤ m.length) : (getB ((m.take (4 * i + 4)).drop (4 * i))).toUInt32 = getW m i := by
  rw [cut4 m i h, getB4]; rfl
theorem rotr_alt (x : UInt32) (k : Nat) : x >>> UInt32.ofNat k ||| x <<< UInt32.ofNat (32 - k) = rotr x k := UInt32.or_comm _ _
theorem wl_take (m : List UInt8) (n k : Nat) : (wl m (n + k)).take n = wl m n := by
  induction k with
  | zero => rw [List.take_of_length_le (by rw [length_wl]; exact Nat.le_refl _)]; rfl
  | succ k ih =>
    show (wl m (n + k) ++ [_]).take n = _
    rw [List.take_append_of_le_length (by rw [length_wl]; omega), ih]
/-- One word more, put at its place. -/
theorem wl_set (m : List UInt8) (n : Nat) (r : List UInt32) (h : r ≠ []) : ((wl m n ++ r).map u32).set n (u32 (wv m (wl m n) n)) = (wl m (n + 1) ++ r.tail).map u32 := by
  cases r with
  | nil => exact absurd rfl h
  | cons x r =>
    have hl := length_wl m n
    rw [List.map_append, List.set_append_right _ _ (by simp [hl]), List.length_map, hl, Nat.sub_self, wl, List.tail_cons]
    simp
theorem wl_get (m : List UInt8) (n : Nat) (r : List UInt32) (i : Nat) (h : i < n) : ((wl m n ++ r).map u32)[i]? = some (u32 ((wl m n).getD i 0)) := by
  have hl := length_wl m n
  rw [List.map_append, List.getElem?_append_left (by simp [hl, h]), List.getElem?_map]
  simp [List.getElem?_eq_getElem (show i < (wl m n).length by omega)]
theorem wl_getm (m : List UInt8) (n i : Nat) (h : i < n) : ((wl m n).map u32)[i]? = some (u32 ((wl m n).getD i 0)) := by
  have := wl_get m n [] i h
  rwa [List.append_nil] at this
theorem putB_tail (n : UInt64) (k : Nat) : putB n (k + 1) = (n >>> UInt64.ofNat (8 * k)).toUInt8 :: putB n k := rfl
theorem put_spl (n : UInt64) (k i : Nat) (h : i < k) : spl ((List.replicate (k - i) 0 ++ putB n i).map u8) (k - 1 - i) [u8 (n >>> UInt64.ofNat (8 * i)).toUInt8] = (List.replicate (k - (i + 1)) 0 ++ putB n (i + 1)).map u8 := by
  obtain ⟨m, rfl⟩ : ∃ m, k = i + 1 + m := ⟨k - (i + 1), by omega⟩
  rw [show i + 1 + m - i = m + 1 by omega, show i + 1 + m - 1 - i = m by omega, show i + 1 + m - (i + 1) = m by omega, List.replicate_succ', putB_tail]
  simp only [spl, List.map_append, List.map_cons, List.map_nil, List.append_assoc, List.length_singleton]
  rw [List.take_append_of_le_length (by simp), List.take_of_length_le (by simp), List.drop_append, List.drop_of_length_le (by simp)]
  simp
theorem shr_shr (n : UInt64) (i : Nat) (h : 8 * i + 8 < 64) : n >>> UInt64.ofNat (8 * i) >>> UInt64.ofNat 8 = n >>> UInt64.ofNat (8 * (i + 1)) := by
  apply UInt64.toNat_inj.1
  simp only [UInt64.toNat_shiftRight, UInt64.toNat_ofNat']
  rw [show 8 * i % 2 ^ 64 % 64 = 8 * i by omega, show 8 % 2 ^ 64 % 64 = 8 by decide, show 8 * (i + 1) % 2 ^ 64 % 64 = 8 * i + 8 by omega, Nat.shiftRight_add]
theorem out_step (v : V8) (i : Nat) (h : i < 8) : spl (((out v).take (4 * i) ++ List.replicate (32 - 4 * i) 0).map u8) (4 * i) (((putB (v.l.getD i 0).toUInt64 4).take 4).map u8) = ((out v).take (4 * (i + 1)) ++ List.replicate (32 - 4 * (i + 1)) 0).map u8 := by
  match i, h with
  | 0, _ => rfl
  | 1, _ => rfl
  | 2, _ => rfl
  | 3, _ => rfl
  | 4, _ => rfl
  | 5, _ => rfl
  | 6, _ => rfl
  | 7, _ => rfl
theorem bls_step (v : V8) (t : List UInt8) (h : 64 ≤ t.length) : bls (t.length / 64) v t = bls ((t.drop 64).length / 64) (comp v (t.take 64)) (t.drop 64) := by
  obtain ⟨k, hk⟩ : ∃ k, t.length / 64 = k + 1 := ⟨t.length / 64 - 1, by omega⟩
  have : (t.drop 64).length / 64 = k := by rw [List.length_drop]; omega
  rw [hk, this]; rfl
/-- What the globals hold. -/
def glS (g0 g1 : Nat) (w : World) : Prop := At w ⟨g0, 0, none⟩ (vc v0) ∧ At w ⟨g1, 0, none⟩ (kk.map u32)
theorem wv_alt (m : List UInt8) (l : List UInt32) (n : Nat) (h : 16 ≤ n) : l.getD (n - 16) 0 + (rotr (l.getD (n - 15) 0) 7 ^^^ rotr (l.getD (n - 15) 0) 18 ^^^ l.getD (n - 15) 0 >>> UInt32.ofNat 3) + l.getD (n - 7) 0 + (rotr (l.getD (n - 2) 0) 17 ^^^ rotr (l.getD (n - 2) 0) 19 ^^^ l.getD (n - 2) 0 >>> UInt32.ofNat 10) = wv m l n := by
  rw [wv, if_neg (by omega)]
  rw [UInt32.add_assoc (l.getD (n - 16) 0), UInt32.add_comm (_ ^^^ _ ^^^ _) (l.getD (n - 7) 0), ← UInt32.add_assoc (l.getD (n - 16) 0)]
  rfl
theorem getW_p (p : List UInt8) (a i : Nat) (h : i < 16) : getW ((p.drop a).take 64) i = w4 (p.getD (a + 4 * i) 0) (p.getD (a + 4 * i + 1) 0) (p.getD (a + 4 * i + 2) 0) (p.getD (a + 4 * i + 3) 0) := by
  have key : ∀ j, j < 64 → ((p.drop a).take 64).getD j 0 = p.getD (a + j) 0 := fun j hj => by
    rw [List.getD_eq_getElem?_getD, List.getD_eq_getElem?_getD, List.getElem?_take, if_pos hj, List.getElem?_drop]
  rw [getW, key _ (by omega), key _ (by omega), key _ (by omega), key _ (by omega)]
  rfl
theorem fillK : Instr.fill (fun i => some (i * 1, 1)) (List.replicate 64 (u32 0)).toArray (((kk.map u32).zipIdx 0).map fun p => (p.2, p.1)) = some (kk.map u32).toArray :=
  fill_all (kk.map u32) 0 [] (List.replicate 64 (u32 0)) (by intro v hv; obtain ⟨x, _, rfl⟩ := List.mem_map.1 hv; rfl) rfl rfl
/-- The bytes of a sum, one by one. -/
theorem out_get (v : V8) (i : Nat) (h : i < 32) : (out v)[i]? = some ((v.l.getD (i / 4) 0) >>> UInt32.ofNat (24 - 8 * (i % 4))).toUInt8 := by
  have key : ∀ (x : UInt32) (k : Nat), k < 4 → (x.toUInt64 >>> UInt64.ofNat (8 * k)).toUInt8 = (x >>> UInt32.ofNat (8 * k)).toUInt8 := fun x k hk => by
    apply UInt8.toNat_inj.1
    simp only [UInt64.toNat_toUInt8, UInt32.toNat_toUInt8, UInt64.toNat_shiftRight, UInt32.toNat_shiftRight, UInt32.toNat_toUInt64, UInt64.toNat_ofNat', UInt32.toNat_ofNat']
    rw [show 8 * k % 2 ^ 64 % 64 = 8 * k by omega, show 8 * k % 2 ^ 32 % 32 = 8 * k by omega]
  have hput : ∀ x : UInt32, putB x.toUInt64 4 = [(x >>> UInt32.ofNat 24).toUInt8, (x >>> UInt32.ofNat 16).toUInt8, (x >>> UInt32.ofNat 8).toUInt8, (x >>> UInt32.ofNat 0).toUInt8] := fun x => by
    rw [putB, putB, putB, putB, putB, key x 3 (by decide), key x 2 (by decide), key x 1 (by decide), key x 0 (by decide)]
  simp only [out, V8.l, List.flatMap_cons, List.flatMap_nil, hput]
  match i, h with
  | 0, _ => rfl
  | 1, _ => rfl
  | 2, _ => rfl
  | 3, _ => rfl
  | 4, _ => rfl
  | 5, _ => rfl
  | 6, _ => rfl
  | 7, _ => rfl
  | 8, _ => rfl
  | 9, _ => rfl
  | 10, _ => rfl
  | 11, _ => rfl
  | 12, _ => rfl
  | 13, _ => rfl
  | 14, _ => rfl
  | 15, _ => rfl
  | 16, _ => rfl
  | 17, _ => rfl
  | 18, _ => rfl
  | 19, _ => rfl
  | 20, _ => rfl
  | 21, _ => rfl
  | 22, _ => rfl
  | 23, _ => rfl
  | 24, _ => rfl
  | 25, _ => rfl
  | 26, _ => rfl
  | 27, _ => rfl
  | 28, _ => rfl
  | 29, _ => rfl
  | 30, _ => rfl
  | 31, _ => rfl
  | k + 32, h => exact absurd h (by omega)
theorem take_set_cells (l : List UInt8) (n i : Nat) (b : UInt8) (hl : l.length = n) (hi : i < n) (hb : l[i]? = some b) : ((l.take i ++ List.replicate (n - i) 0).map u8).set i (u8 b) = (l.take (i + 1) ++ List.replicate (n - (i + 1)) 0).map u8 := by
  have h1 : (l.take i).length = i := by rw [List.length_take]; omega
  obtain ⟨k, hk⟩ : ∃ k, n - i = k + 1 := ⟨n - i - 1, by omega⟩
  rw [hk, show n - (i + 1) = k by omega, List.take_add_one, hb, List.replicate_succ, List.map_append, List.set_append_right _ _ (by rw [List.length_map, h1]; exact Nat.le_refl _), List.length_map, h1, Nat.sub_self]
  simp
end Go.Sx
