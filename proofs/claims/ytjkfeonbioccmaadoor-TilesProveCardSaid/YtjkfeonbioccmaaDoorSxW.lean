/- Speculum proofs: the laws of operations on words of 8, 32 and 64 bits; min and max; values of arrays. -/
import Derived.Test.YtjkfeonbioccmaaDoorSp
import Derived.Laws.BitsLemmas
import Derived.Laws.Bits64
namespace Go.Sx
open Go Go.RowKit
set_option linter.unusedVariables false
set_option linter.unusedSimpArgs false

theorem isS {α : Type} {x : Option α} {v : α} (h : x = some v) : x.isSome = true := by rw [h]; rfl
section
variable {c : Cx} {tm : Env} {C : List Chunk} {F : World → Prop} {o : Oper} {x y z : Operand} {t t' e : TypeId}
section w32
variable {a b : UInt32}
theorem y_add32 (ho : o.op = .binOp .add t x y t') (hx : ev tm x = some (u32 a)) (hy : ev tm y = some (u32 b)) : Yl c tm C F o (u32 (a + b)) :=
  y_add ho hx hy (by rw [IntKind.wrap_u32, UInt32.toNat_add]; omega)
theorem y_sub32 (ho : o.op = .binOp .sub t x y t') (hx : ev tm x = some (u32 a)) (hy : ev tm y = some (u32 b)) : Yl c tm C F o (u32 (a - b)) :=
  y_sub ho hx hy (by have := a.toNat_lt; have := b.toNat_lt; rw [IntKind.wrap_u32, UInt32.toNat_sub]; omega)
theorem bv32 (a : UInt32) : BitVec.ofInt IntKind.u32.bits (a.toNat : Int) = a.toBitVec := by
  show BitVec.ofInt 32 (a.toNat : Int) = a.toBitVec
  apply BitVec.eq_of_toNat_eq
  have := a.toNat_lt
  simp [BitVec.toNat_ofInt]
theorem wrap32 (a : UInt32) : IntKind.u32.wrap (a.toNat : Int) = (a.toNat : Int) := by
  have := a.toNat_lt
  rw [IntKind.wrap_u32]; omega
theorem y_and32 (ho : o.op = .binOp .and t x y t') (hx : ev tm x = some (u32 a)) (hy : ev tm y = some (u32 b)) : Yl c tm C F o (u32 (a &&& b)) :=
  y_and ho hx hy (by rw [bv32, bv32]; exact wrap32 (a &&& b))
theorem y_or32 (ho : o.op = .binOp .or t x y t') (hx : ev tm x = some (u32 a)) (hy : ev tm y = some (u32 b)) : Yl c tm C F o (u32 (a ||| b)) :=
  y_or ho hx hy (by rw [bv32, bv32]; exact wrap32 (a ||| b))
theorem y_xor32 (ho : o.op = .binOp .xor t x y t') (hx : ev tm x = some (u32 a)) (hy : ev tm y = some (u32 b)) : Yl c tm C F o (u32 (a ^^^ b)) :=
  y_xor ho hx hy (by rw [bv32, bv32]; exact wrap32 (a ^^^ b))
theorem y_not32 (ho : o.op = .unOp .xor t x) (hx : ev tm x = some (u32 a)) : Yl c tm C F o (u32 (~~~ a)) := fun ac w ha _ => by
  have h1 : BitVec.ofInt IntKind.u32.bits (4294967295 : Int) = BitVec.allOnes 32 := by
    show BitVec.ofInt 32 (4294967295 : Int) = BitVec.allOnes 32
    decide
  have h2 : IntKind.u32.wrap ((BitVec.allOnes 32 ^^^ a.toBitVec).toNat : Int) = ((~~~ a).toNat : Int) := by
    have h3 : BitVec.allOnes 32 ^^^ a.toBitVec = (~~~ a).toBitVec := by rw [BitVec.allOnes_xor]; rfl
    rw [h3]; exact wrap32 (~~~ a)
  have hb := bv32 a
  simp only [execOp, ho, ha.ev hx, u32, Op.unary, Op.intBits]
  have hm : (if IntKind.u32.signed = true then (-1 : Int) else IntKind.u32.max) = 4294967295 := by decide
  rw [hm, h1, hb]
  exact congrArg (fun q => Result.ok (Next.value (Value.int .u32 q)) w) h2
theorem y_shl32 {k : IntKind} {n : Nat} (ho : o.op = .binOp .shl t x y t') (hx : ev tm x = some (u32 a)) (hy : ev tm y = some (.int k (n : Int))) (hn : n < 32) : Yl c tm C F o (u32 (a <<< UInt32.ofNat n)) :=
  y_shl ho hx hy (by omega) (by
    have h1 : min ((n : Int).toNat) IntKind.u32.bits = n := by show min _ 32 = n; omega
    rw [h1, IntKind.wrap_u32, UInt32.toNat_shiftLeft, UInt32.toNat_ofNat']
    have h2 : n % 2 ^ 32 % 32 = n := by omega
    rw [h2, Nat.shiftLeft_eq, Int.natCast_emod, Int.natCast_mul, Int.natCast_pow]
    rfl)
theorem y_shr32 {k : IntKind} {n : Nat} (ho : o.op = .binOp .shr t x y t') (hx : ev tm x = some (u32 a)) (hy : ev tm y = some (.int k (n : Int))) (hn : n < 32) : Yl c tm C F o (u32 (a >>> UInt32.ofNat n)) :=
  y_shr ho hx hy (by omega) (by
    have h1 : min ((n : Int).toNat) IntKind.u32.bits = n := by show min _ 32 = n; omega
    rw [h1, UInt32.toNat_shiftRight, UInt32.toNat_ofNat']
    have h2 : n % 2 ^ 32 % 32 = n := by omega
    rw [h2, Nat.shiftRight_eq_div_pow, Int.natCast_ediv, Int.natCast_pow]
    rw [Int.fdiv_eq_ediv_of_nonneg _ (by exact Int.pow_nonneg (by decide))]
    rfl)
end w32
section w64
variable {a b : UInt64}
theorem y_add_u64 (ho : o.op = .binOp .add t x y t') (hx : ev tm x = some (u64 a)) (hy : ev tm y = some (u64 b)) : Yl c tm C F o (u64 (a + b)) :=
  y_add ho hx hy (by rw [IntKind.wrap_u64, UInt64.toNat_add]; omega)
theorem y_mul_u64 (ho : o.op = .binOp .mul t x y t') (hx : ev tm x = some (u64 a)) (hy : ev tm y = some (u64 b)) : Yl c tm C F o (u64 (a * b)) :=
  y_mul ho hx hy (by rw [IntKind.wrap_u64, UInt64.toNat_mul]; omega)
theorem y_shl_u64 {k : IntKind} {n : Nat} (ho : o.op = .binOp .shl t x y t') (hx : ev tm x = some (u64 a)) (hy : ev tm y = some (.int k (n : Int))) (hn : n < 64) : Yl c tm C F o (u64 (a <<< UInt64.ofNat n)) :=
  y_shl ho hx hy (by omega) (by
    have h1 : min ((n : Int).toNat) IntKind.u64.bits = n := by show min _ 64 = n; omega
    rw [h1, IntKind.wrap_u64, UInt64.toNat_shiftLeft, UInt64.toNat_ofNat']
    have h2 : n % 2 ^ 64 % 64 = n := by omega
    rw [h2, Nat.shiftLeft_eq, Int.natCast_emod, Int.natCast_mul, Int.natCast_pow]
    rfl)
theorem y_shr_u64 {k : IntKind} {n : Nat} (ho : o.op = .binOp .shr t x y t') (hx : ev tm x = some (u64 a)) (hy : ev tm y = some (.int k (n : Int))) (hn : n < 64) : Yl c tm C F o (u64 (a >>> UInt64.ofNat n)) :=
  y_shr ho hx hy (by omega) (by
    have h1 : min ((n : Int).toNat) IntKind.u64.bits = n := by show min _ 64 = n; omega
    rw [h1, UInt64.toNat_shiftRight, UInt64.toNat_ofNat']
    have h2 : n % 2 ^ 64 % 64 = n := by omega
    rw [h2, Nat.shiftRight_eq_div_pow, Int.natCast_ediv, Int.natCast_pow]
    rw [Int.fdiv_eq_ediv_of_nonneg _ (by exact Int.pow_nonneg (by decide))]
    rfl)
/-- Conversions between kinds. -/
theorem y_8to64 {d : UInt8} (ho : o.op = .convert t t' x) (hs : (c.P.underlying t).isSome = true) (hd : c.P.underlying t' = some (.int .u64)) (hx : ev tm x = some (u8 d)) : Yl c tm C F o (u64 d.toUInt64) :=
  y_conv ho hs hd hx (by have := d.toNat_lt; rw [IntKind.wrap_u64]; simp; omega)
theorem y_8to32 {d : UInt8} (ho : o.op = .convert t t' x) (hs : (c.P.underlying t).isSome = true) (hd : c.P.underlying t' = some (.int .u32)) (hx : ev tm x = some (u8 d)) : Yl c tm C F o (u32 d.toUInt32) :=
  y_conv ho hs hd hx (by have := d.toNat_lt; rw [IntKind.wrap_u32]; simp; omega)
theorem y_32to64 {d : UInt32} (ho : o.op = .convert t t' x) (hs : (c.P.underlying t).isSome = true) (hd : c.P.underlying t' = some (.int .u64)) (hx : ev tm x = some (u32 d)) : Yl c tm C F o (u64 d.toUInt64) :=
  y_conv ho hs hd hx (by have := d.toNat_lt; rw [IntKind.wrap_u64]; simp; omega)
theorem y_64to32 (ho : o.op = .convert t t' x) (hs : (c.P.underlying t).isSome = true) (hd : c.P.underlying t' = some (.int .u32)) (hx : ev tm x = some (u64 a)) : Yl c tm C F o (u32 a.toUInt32) :=
  y_conv ho hs hd hx (by rw [IntKind.wrap_u32]; simp)
theorem y_64to8 (ho : o.op = .convert t t' x) (hs : (c.P.underlying t).isSome = true) (hd : c.P.underlying t' = some (.int .u8)) (hx : ev tm x = some (u64 a)) : Yl c tm C F o (u8 a.toUInt8) :=
  y_conv ho hs hd hx (by rw [IntKind.wrap_u8]; simp)
theorem y_32to8 {d : UInt32} (ho : o.op = .convert t t' x) (hs : (c.P.underlying t).isSome = true) (hd : c.P.underlying t' = some (.int .u8)) (hx : ev tm x = some (u32 d)) : Yl c tm C F o (u8 d.toUInt8) :=
  y_conv ho hs hd hx (by rw [IntKind.wrap_u8]; simp)
theorem y_ito64 {n : Nat} (ho : o.op = .convert t t' x) (hs : (c.P.underlying t).isSome = true) (hd : c.P.underlying t' = some (.int .u64)) (hx : ev tm x = some (.int .i64 (n : Int))) (hn : n ≤ 9223372036854775807) : Yl c tm C F o (u64 (UInt64.ofNat n)) :=
  y_conv ho hs hd hx (by rw [IntKind.wrap_u64, UInt64.toNat_ofNat']; omega)
theorem y_8toi {d : UInt8} (ho : o.op = .convert t t' x) (hs : (c.P.underlying t).isSome = true) (hd : c.P.underlying t' = some (.int .i64)) (hx : ev tm x = some (u8 d)) : Yl c tm C F o (.int .i64 (d.toNat : Int)) :=
  y_conv ho hs hd hx (by have := d.toNat_lt; exact wrap64 (by omega) (by omega))
end w64
/-! ### min, max -/
theorem y_min {a b : Int} (ho : o.op = .call { callee := .builtin .min, args := #[x, y], argTypes := #[t, t'] }) (hx : ev tm x = some (.int .i64 a)) (hy : ev tm y = some (.int .i64 b)) : Yl c tm C F o (.int .i64 (min a b)) := fun ac w ha _ => by
  have h1 : (if b < a then b else a) = min a b := by omega
  simp only [execOp, ho, resolve, invoke, builtin, Sem.run_bind, Sem.run_pure, Result.andThen_ok, List.map_toArray, List.map_cons, List.map_nil, ha.ev hx, ha.ev hy]
  simp only [Builtin.min_, List.foldlM, Builtin.min2, Sem.run_bind, Sem.run_pure, Result.andThen_ok, h1]
theorem y_max {a b : Int} (ho : o.op = .call { callee := .builtin .max, args := #[x, y], argTypes := #[t, t'] }) (hx : ev tm x = some (.int .i64 a)) (hy : ev tm y = some (.int .i64 b)) : Yl c tm C F o (.int .i64 (max a b)) := fun ac w ha _ => by
  have h1 : (if b > a then b else a) = max a b := by omega
  simp only [execOp, ho, resolve, invoke, builtin, Sem.run_bind, Sem.run_pure, Result.andThen_ok, List.map_toArray, List.map_cons, List.map_nil, ha.ev hx, ha.ev hy]
  simp only [Builtin.max_, List.foldlM, Builtin.max2, Sem.run_bind, Sem.run_pure, Result.andThen_ok, h1]
/-! ### an element of an array's value -/
theorem run_part1 {P : Program} {w : World} {cs : List Value} {i : Nat} {v : Value} (ha : aggO P e = some false) (hv : cs[i]? = some v) : (part e cs.toArray i).run P w = .ok v w := by
  have : cs.toArray[i]? = some v := by simpa using hv
  simp only [part, Sem.run_bind, run_isAgg ha, Result.andThen_ok, Bool.false_eq_true, if_false, this]
  rfl
theorem run_partA {P : Program} {w : World} {cs vs : List Value} {i : Nat} (ha : aggO P e = some true) (hs : szO P e = some vs.length) (hv : (cs.drop i).take vs.length = vs) (hn : vs ≠ []) : (part e cs.toArray i).run P w = .ok (.agg vs.toArray) w := by
  have hlen : i + vs.length ≤ cs.length := by
    have h1 := congrArg List.length hv
    have h2 : vs.length ≠ 0 := by simpa using hn
    rw [List.length_take, List.length_drop] at h1
    omega
  have hx : cs.toArray.extract i (i + vs.length) = vs.toArray := by
    apply Array.ext'
    simp [List.extract_eq_take_drop, hv]
  simp only [part, Sem.run_bind, run_isAgg ha, Result.andThen_ok, if_true, run_szO hs]
  simp [hx, hlen]
theorem y_ielem {n : Nat} {k : IntKind} {j : Int} {cs : List Value} {v : Value} (ho : o.op = .index t x y) (ht : c.P.underlying t = some (.array n e)) (ha : aggO c.P e = some false) (hz : szO c.P e = some 1) (hx : ev tm x = some (.agg cs.toArray)) (hy : ev tm y = some (.int k j))
    (h : 0 ≤ j ∧ j < n) (hv : cs[j.toNat]? = some v) : Yl c tm C F o v := fun ac w hag _ => by
  simp only [execOp, ho, hag.ev hx, hag.ev hy, Instr.index, asIntOf, Sem.run_bind, Sem.run_pure, Result.andThen_ok, run_underlying ht]
  rw [if_pos h]
  simp only [Sem.run_bind, run_szO hz, Result.andThen_ok, Nat.mul_one, run_part1 ha hv]
theorem slotI {k : IntKind} {a b : Int} (h : a = b) : some (Value.int k a) = some (Value.int k b) := by rw [h]
theorem slotV {a b : Value} (h : a = b) : some a = some b := by rw [h]
theorem y_shr_u64N {a : UInt64} {k : IntKind} {b : Int} (n : Nat) (ho : o.op = .binOp .shr t x y t') (hx : ev tm x = some (u64 a)) (hy : ev tm y = some (.int k b)) (hb : b = n) (hn : n < 64) : Yl c tm C F o (u64 (a >>> UInt64.ofNat n)) := by
  subst hb
  exact y_shr_u64 ho hx hy hn
theorem y_shr32N {a : UInt32} {k : IntKind} {b : Int} (n : Nat) (ho : o.op = .binOp .shr t x y t') (hx : ev tm x = some (u32 a)) (hy : ev tm y = some (.int k b)) (hb : b = n) (hn : n < 32) : Yl c tm C F o (u32 (a >>> UInt32.ofNat n)) := by
  subst hb
  exact y_shr32 ho hx hy hn
/-! ### by natural indices -/
theorem y_schar {l : List UInt8} {k : IntKind} {a : Int} (j : Nat) (ho : o.op = .index t x y) (ht : c.P.underlying t = some .string) (hx : ev tm x = some (str l)) (hy : ev tm y = some (.int k a)) (hj : a = j) (h : j < l.length) : Yl c tm C F o (u8 (l.getD j 0)) :=
  y_sindex ho ht hx hy (by omega) (by subst hj; simp [List.getElem?_eq_getElem h])
theorem y_ielemN {n : Nat} {k : IntKind} {a : Int} {cs : List Value} {v : Value} (j : Nat) (ho : o.op = .index t x y) (ht : c.P.underlying t = some (.array n e)) (ha : aggO c.P e = some false) (hz : szO c.P e = some 1) (hx : ev tm x = some (.agg cs.toArray)) (hy : ev tm y = some (.int k a)) (hj : a = j)
    (h : j < n) (hv : cs[j]? = some v) : Yl c tm C F o v :=
  y_ielem ho ht ha hz hx hy (by omega) (by subst hj; simpa using hv)
theorem At.cell0 {w : World} {g : Nat} {vs : List Value} {i : Nat} {v : Value} (h : At w ⟨g, 0, none⟩ vs) (hv : vs[i]? = some v) : w.cell? ⟨g, i, none⟩ = some v := by
  have := h i v hv
  rwa [Addr.add_lit, Nat.zero_add] at this
/-- An element's address: an array in an own block, its elements of one cell. -/
theorem y_ib1 {g n : Nat} {k : IntKind} {a : Int} (j : Nat) (ho : o.op = .indexAddr t x y) (ht : c.P.underlying t = some (.array n e)) (hz : szO c.P e = some 1) (hx : ev tm x = some (.pointer (some ⟨g, 0, none⟩))) (hy : ev tm y = some (.int k a)) (hj : a = j)
    (h : j < n) : Yl c tm C F o (.pointer (some ⟨g, j, none⟩)) :=
  (y_ib ho ht hz hx hy (by omega)).to (by subst hj; simp)
/-- An element's address: of a slice. -/
theorem y_idxN {A : Option Addr} {n cap sz : Nat} {k : IntKind} {a : Int} (j : Nat) (ho : o.op = .indexAddr t x y) (ht : c.P.underlying t = some (.slice e)) (hz : szO c.P e = some sz) (hx : ev tm x = some (.slice A n cap)) (hy : ev tm y = some (.int k a)) (hj : a = j)
    (h : j < n) (hA : ∀ w, St c w C F → A.isSome = true) : Yl c tm C F o (.pointer (some ((gA A).add (j * sz)))) :=
  (y_idx ho ht hz hx hy (by omega) hA).to (by subst hj; simp)
theorem y_sliceN {l : List UInt8} {kl kh : IntKind} {a b : Int} {xl xh : Operand} (i j : Nat) (ho : o.op = .slice t x (some xl) (some xh) none) (ht : c.P.underlying t = some .string) (hx : ev tm x = some (str l)) (hl : ev tm xl = some (.int kl a)) (hh : ev tm xh = some (.int kh b))
    (ha : a = i) (hb : b = j) (h : i ≤ j ∧ j ≤ l.length) : Yl c tm C F o (str ((l.take j).drop i)) :=
  (y_sslice ho ht hx hl hh (by omega)).to (by subst ha; subst hb; simp)
theorem y_stoN {l : List UInt8} {kh : IntKind} {b : Int} {xh : Operand} (j : Nat) (ho : o.op = .slice t x none (some xh) none) (ht : c.P.underlying t = some .string) (hx : ev tm x = some (str l)) (hh : ev tm xh = some (.int kh b))
    (hb : b = j) (h : j ≤ l.length) : Yl c tm C F o (str (l.take j)) :=
  (y_sslice_to ho ht hx hh (by omega)).to (by subst hb; simp)
theorem y_sfromN {l : List UInt8} {kl : IntKind} {a : Int} {xl : Operand} (i : Nat) (ho : o.op = .slice t x (some xl) none none) (ht : c.P.underlying t = some .string) (hx : ev tm x = some (str l)) (hl : ev tm xl = some (.int kl a))
    (ha : a = i) (h : i ≤ l.length) : Yl c tm C F o (str (l.drop i)) :=
  (y_sslice_from ho ht hx hl (by omega)).to (by subst ha; simp)
/-- A place in an own slice, cut: s[lo:hi], s[:hi], s[lo:]. -/
theorem y_cutN {A : Option Addr} {n cap sz : Nat} {kl kh : IntKind} {a b : Int} {xl xh : Operand} (i j : Nat) (ho : o.op = .slice t x (some xl) (some xh) none) (ht : c.P.underlying t = some (.slice e)) (hz : szO c.P e = some sz) (hx : ev tm x = some (.slice A n cap))
    (hl : ev tm xl = some (.int kl a)) (hh : ev tm xh = some (.int kh b)) (ha : a = i) (hb : b = j) (h : i ≤ j ∧ j ≤ cap) : Yl c tm C F o (.slice (cutA A cap i sz) (j - i) (cap - i)) :=
  (y_cut ho ht hz hx hl hh (by omega)).to (by subst ha; subst hb; simp)
theorem y_cuttoN {A : Option Addr} {n cap sz : Nat} {kh : IntKind} {b : Int} {xh : Operand} (j : Nat) (ho : o.op = .slice t x none (some xh) none) (ht : c.P.underlying t = some (.slice e)) (hz : szO c.P e = some sz) (hx : ev tm x = some (.slice A n cap))
    (hh : ev tm xh = some (.int kh b)) (hb : b = j) (h : j ≤ cap) : Yl c tm C F o (.slice A j cap) :=
  (y_cutto ho ht hz hx hh (by omega)).to (by subst hb; simp)
theorem y_cutfromN {A : Option Addr} {n cap sz : Nat} {kl : IntKind} {a : Int} {xl : Operand} (i : Nat) (ho : o.op = .slice t x (some xl) none none) (ht : c.P.underlying t = some (.slice e)) (hz : szO c.P e = some sz) (hx : ev tm x = some (.slice A n cap))
    (hl : ev tm xl = some (.int kl a)) (ha : a = i) (h : i ≤ n) : Yl c tm C F o (.slice (cutA A cap i sz) (n - i) (cap - i)) :=
  (y_cutfrom ho ht hz hx hl (by omega)).to (by subst ha; simp)
/-- A value of the type int is stored under another name. -/
theorem y_toI {a b : Int} {k : IntKind} (h : Yl c tm C F o (.int k a)) (e : a = b) : Yl c tm C F o (.int k b) := e ▸ h
end
end Go.Sx
