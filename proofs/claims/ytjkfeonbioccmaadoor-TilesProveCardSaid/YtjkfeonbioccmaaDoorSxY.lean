/- Speculum proofs: bits of numbers, bytes of numbers, parts of structs, a hash stored among others. -/
import Derived.Test.YtjkfeonbioccmaaDoorSxX
namespace Go.Sx
open Go Go.RowKit
set_option linter.unusedVariables false
set_option linter.unusedSimpArgs false
/-- The bits that a number has in common with one that is not below 0. -/
def andI (a : Int) (b : Nat) : Nat := (BitVec.ofInt 64 a &&& BitVec.ofInt 64 (b : Int)).toNat
theorem andI_le (a : Int) (b : Nat) (hb : b < 9223372036854775808) : andI a b ≤ b := by
  unfold andI
  have h : (BitVec.ofInt 64 (b : Int)).toNat = b := by
    rw [BitVec.ofInt_natCast, BitVec.toNat_ofNat]; omega
  rw [BitVec.toNat_and, h]
  exact Nat.and_le_right
theorem hcs_set (p : List H) (i : Nat) (x : H) (hi : i < p.length) : spl (hcs p) (i * 32) (hc x) = hcs (p.set i x) := by
  simp only [spl, hcl]
  rw [hcs_take, show i * 32 + 32 = (i + 1) * 32 by omega, hcs_drop, List.set_eq_take_append_cons_drop, if_pos hi, hcs_append, hcs_cons, List.append_assoc]
section
variable {c : Cx} {tm : Env} {C : List Chunk} {F : World → Prop} {o : Oper} {v : Value} {x y z : Operand} {t t' e : TypeId} {d : Nat}
theorem y_andI {a b' : Int} (b : Nat) (ho : o.op = .binOp .and t x y t') (hx : ev tm x = some (.int .i64 a)) (hy : ev tm y = some (.int .i64 b')) (he : b' = b) (hb : b < 9223372036854775808) : Yl c tm C F o (.int .i64 (andI a b : Int)) := by
  subst he
  refine y_and ho hx hy ?_
  have := andI_le a b hb
  show IntKind.i64.wrap ((andI a b : Nat) : Int) = _
  rw [IntKind.wrap_i64]; omega
theorem y_ito8I {k : IntKind} {a : Int} (ho : o.op = .convert t t' x) (hs : (c.P.underlying t).isSome = true) (hd : c.P.underlying t' = some (.int .u8)) (hx : ev tm x = some (.int k a)) : Yl c tm C F o (u8 (UInt8.ofNat (a % 256).toNat)) :=
  y_conv ho hs hd hx (by rw [IntKind.wrap_u8, UInt8.toNat_ofNat']; omega)
theorem y_remN {a b : Int} (m n : Nat) (ho : o.op = .binOp .rem t x y t') (hx : ev tm x = some (.int .i64 a)) (hy : ev tm y = some (.int .i64 b)) (ha : a = m) (hb : b = n) (hn : 0 < n) : Yl c tm C F o (.int .i64 ((m % n : Nat) : Int)) := by
  subst ha; subst hb
  exact (y_rem64 ho hx hy ⟨by omega, by omega⟩).to (by rw [Int.natCast_emod])
end
end Go.Sx
