/- Speculum proofs: a range that comes in. -/
import Derived.Test.YtjkfeonbioccmaaDoorMg
import Derived.Test.YtjkfeonbioccmaaDoorLw
namespace Go.Proofs.YtjkfeonbioccmaaDoor
open Go Go.Sx Go.RowKit Go.ChangeShapes Go.WideShapes Go.ChangeAt
set_option linter.unusedVariables false
set_option linter.unusedSimpArgs false
set_option maxRecDepth 100000
theorem parts2 (cs : List Value) (a b : Nat) (h : cs.length = a + b) : cs = cs.take a ++ (cs.drop a).take b := by
  rw [List.take_of_length_le (l := cs.drop a) (by rw [List.length_drop]; omega), List.take_append_drop]
/-- A range's cells, where one comes in. -/
theorem range_of_trod {H' : Type} {enc : TypeId × Value → H'} {w : World} {sp : Nat → Bool} {held : Bool} {fuel : Nat} {cs : List Value} {x : DataW H' × List MemPlace} (hf : DataW.trod enc Tryd.prog w 0 sp held fuel 87 cs = some x) :
    ∃ (s : Int) (A : Option Addr) (n k : Nat) (l : List H), cs = [.int .i64 s, .slice A n k] ∧ in64 s ∧ l.length = n ∧ n ≤ k ∧ k ≤ maxLen ∧ ∀ w', Fr No w w' → Sl w' A (hcs l) := by
  have hl := struct_len Tryd.underlying87 hf
  rw [show Tryd.prog.cellsOf 87 = 1 + 1 by kernel_rfl] at hl
  obtain ⟨_, _, e0⟩ := struct_field Tryd.underlying87 hf 0 _ rfl
  obtain ⟨_, _, e1⟩ := struct_field Tryd.underlying87 hf 1 _ rfl
  have c1 : Tryd.prog.cellsOf 3 = 1 := by kernel_rfl
  have c2 : Tryd.prog.cellsOf 22 = 1 := by kernel_rfl
  obtain ⟨s, g0, _, hs⟩ := DataW.trod_int Tryd.underlying3 e0
  obtain ⟨A, n, k, l, g1, h1, h2, h3, h4⟩ := hashes_of_trod Tryd.underlying22 Tryd.underlying30 Tryd.underlying5 (by kernel_rfl) (by kernel_rfl) e1
  change (cs.drop 0).take (Tryd.prog.cellsOf 3) = _ at g0
  change (cs.drop 1).take (Tryd.prog.cellsOf 22) = _ at g1
  rw [c1, List.drop_zero] at g0
  rw [c2] at g1
  refine ⟨s, A, n, k, l, ?_, open_i64 hs, h1, h2, h3, h4⟩
  have hp := parts2 cs 1 1 hl
  rw [g0, g1] at hp
  exact hp
theorem open_range {H' : Type} {enc : TypeId × Value → H'} {w : World} {b' : Nat} {sp : Nat → Bool} {held : Bool} {v : Value} {d : DataW H'} {ps : List MemPlace} (hv' : Value.okWide Tryd.prog w .any b' 87 v) (h : DataW.Trod enc Tryd.prog w 0 sp held 87 v d ps) :
    ∃ (s : Int) (A : Option Addr) (n k : Nat) (l : List H), v = .agg #[.int .i64 s, .slice A n k] ∧ in64 s ∧ l.length = n ∧ n ≤ k ∧ k ≤ maxLen ∧ ∀ w', Fr No w w' → Sl w' A (hcs l) := by
  obtain ⟨cs, rfl⟩ := Go.Sx.okWide_struct Tryd.underlying87 hv'
  obtain ⟨fuel, hf⟩ := h
  obtain ⟨s, A, n, k, l, e, r⟩ := range_of_trod hf
  have e' : cs.toList = [.int .i64 s, .slice A n k] := e
  exact ⟨s, A, n, k, l, by rw [← e'], r⟩
end Go.Proofs.YtjkfeonbioccmaaDoor
