/- Speculum proofs: numbers that come in. -/
import Derived.Test.YtjkfeonbioccmaaDoorSxArg
import Derived.Test.YtjkfeonbioccmaaDoorSxMap
namespace Go.Sx
open Go Go.RowKit Go.WideShapes Go.ChangeShapes
set_option linter.unusedVariables false
set_option linter.unusedSimpArgs false
variable {Hh : Type} {P : Program} {enc : TypeId × Value → Hh} {w : World} {base b' : Nat} {sp : Nat → Bool} {held : Bool} {v : Value} {d : DataW Hh} {ps : List MemPlace} {E U : TypeId}
theorem two_of_trod {fuel : Nat} {cs : List Value} {x : DataW Hh × List MemPlace} (hE : P.underlying E = some (.array 2 U)) (hU : P.underlying U = some (.int .i64)) (cU : P.cellsOf U = 1) (cE : P.cellsOf E = 2) (h : DataW.trod enc P w base sp held fuel E cs = some x) : ∃ a b : Int, in64 a ∧ in64 b ∧ cs = [.int .i64 a, .int .i64 b] := by
  obtain ⟨xs, m, rfl, rfl, hl, hn, hel⟩ := DataW.trod_array hE h
  rw [cE] at hl
  have hw64 : ∀ n : Int, (Lit.int .i64 n).wf = true → in64 n := fun n h => by
    simp [Lit.wf, IntKind.min, IntKind.max, IntKind.signed, IntKind.bits] at h
    unfold in64; omega
  have key : ∀ i, i < 2 → ∃ n : Int, in64 n ∧ cs[i]? = some (.int .i64 n) := by
    intro i hi
    have h1 := hel i hi
    rw [cU, Nat.mul_one, List.getElem?_eq_getElem (by omega)] at h1
    obtain ⟨n, e, _, hw⟩ := DataW.trod_int hU h1
    refine ⟨n, hw64 n hw, ?_⟩
    have e2 : cs[i]? = ((cs.drop i).take 1)[0]? := by simp
    rw [e2, e]; rfl
  obtain ⟨a, ha, e0⟩ := key 0 (by decide)
  obtain ⟨b, hb, e1⟩ := key 1 (by decide)
  refine ⟨a, b, ha, hb, ?_⟩
  match cs, hl, e0, e1 with
  | [x, y], _, e0, e1 =>
    simp at e0 e1
    rw [e0, e1]
theorem open_two (hE : P.underlying E = some (.array 2 U)) (hU : P.underlying U = some (.int .i64)) (cU : P.cellsOf U = 1) (cE : P.cellsOf E = 2) (hv' : Value.okWide P w .any b' E v) (h : DataW.Trod enc P w base sp held E v d ps) : ∃ a b : Int, in64 a ∧ in64 b ∧ v = kv a b := by
  obtain ⟨cs, rfl⟩ := Go.Sx.okWide_arr hE hv'
  obtain ⟨fuel, hf⟩ := h
  obtain ⟨a, b, ha, hb, e⟩ := two_of_trod hE hU cU cE hf
  exact ⟨a, b, ha, hb, by rw [kv, ← e]; simp [Value.cells]⟩
/-- Two bytes. -/
def kv8 (a b : UInt8) : Value := .agg #[u8 a, u8 b]
theorem two8_of_trod {fuel : Nat} {cs : List Value} {x : DataW Hh × List MemPlace} (hE : P.underlying E = some (.array 2 U)) (hU : P.underlying U = some (.int .u8)) (cU : P.cellsOf U = 1) (cE : P.cellsOf E = 2) (h : DataW.trod enc P w base sp held fuel E cs = some x) : ∃ a b : UInt8, cs = [u8 a, u8 b] := by
  obtain ⟨xs, m, rfl, rfl, hl, hn, hel⟩ := DataW.trod_array hE h
  rw [cE] at hl
  have key : ∀ i, i < 2 → ∃ n : UInt8, cs[i]? = some (u8 n) := by
    intro i hi
    have h1 := hel i hi
    rw [cU, Nat.mul_one, List.getElem?_eq_getElem (by omega)] at h1
    obtain ⟨n, e, _, hw⟩ := DataW.trod_int hU h1
    refine ⟨UInt8.ofNat n.toNat, ?_⟩
    have e2 : cs[i]? = ((cs.drop i).take 1)[0]? := by simp
    rw [e2, e, ← u8_of hw]; rfl
  obtain ⟨a, e0⟩ := key 0 (by decide)
  obtain ⟨b, e1⟩ := key 1 (by decide)
  refine ⟨a, b, ?_⟩
  match cs, hl, e0, e1 with
  | [x, y], _, e0, e1 =>
    simp at e0 e1
    rw [e0, e1]
theorem open_two8 (hE : P.underlying E = some (.array 2 U)) (hU : P.underlying U = some (.int .u8)) (cU : P.cellsOf U = 1) (cE : P.cellsOf E = 2) (hv' : Value.okWide P w .any b' E v) (h : DataW.Trod enc P w base sp held E v d ps) : ∃ a b : UInt8, v = kv8 a b := by
  obtain ⟨cs, rfl⟩ := Go.Sx.okWide_arr hE hv'
  obtain ⟨fuel, hf⟩ := h
  obtain ⟨a, b, e⟩ := two8_of_trod hE hU cU cE hf
  exact ⟨a, b, by rw [kv8, ← e]; simp [Value.cells]⟩
theorem open_u8 {n : Int} (h : (Lit.int .u8 n).wf = true) : ∃ b : UInt8, n = (b.toNat : Int) := by
  have hb := bounds_u8 h
  exact ⟨UInt8.ofNat n.toNat, by rw [UInt8.toNat_ofNat']; omega⟩
theorem open_i64 {n : Int} (h : (Lit.int .i64 n).wf = true) : in64 n := by
  simp [Lit.wf, IntKind.min, IntKind.max, IntKind.signed, IntKind.bits] at h
  unfold in64; omega
end Go.Sx
