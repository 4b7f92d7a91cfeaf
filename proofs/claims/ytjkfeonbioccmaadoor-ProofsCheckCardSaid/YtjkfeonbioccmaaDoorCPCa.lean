/- Speculum proofs: a claim on two sizes and two roots, that comes in. -/
import Derived.Test.YtjkfeonbioccmaaDoorFi
import Derived.Test.YtjkfeonbioccmaaDoorLw
namespace Go.Proofs.YtjkfeonbioccmaaDoor
open Go Go.Sx Go.RowKit Go.ChangeShapes Go.WideShapes Go.ChangeAt
set_option linter.unusedVariables false
set_option linter.unusedSimpArgs false
set_option maxRecDepth 100000
/-- A claim that comes in. -/
theorem open_claim {H' : Type} {enc : TypeId × Value → H'} {w : World} {base b' : Nat} {sp : Nat → Bool} {held : Bool} {v : Value} {d : DataW H'} {ps : List MemPlace} (hv' : Value.okWide Tryd.prog w .any b' 32 v) (h : DataW.Trod enc Tryd.prog w base sp held 32 v d ps) :
    ∃ (cm cn : Int) (a b : H), v = .agg (clC cm cn a b).toArray := by
  obtain ⟨cs, rfl⟩ := Go.Sx.okWide_struct Tryd.underlying32 hv'
  obtain ⟨fuel, hf⟩ := h
  have hl := struct_len Tryd.underlying32 hf
  rw [show Tryd.prog.cellsOf 32 = 1 + 1 + 32 + 32 by kernel_rfl] at hl
  obtain ⟨_, _, e0⟩ := struct_field Tryd.underlying32 hf 0 _ rfl
  obtain ⟨_, _, e1⟩ := struct_field Tryd.underlying32 hf 1 _ rfl
  obtain ⟨_, _, e2⟩ := struct_field Tryd.underlying32 hf 2 _ rfl
  obtain ⟨_, _, e3⟩ := struct_field Tryd.underlying32 hf 3 _ rfl
  have c1 : Tryd.prog.cellsOf 3 = 1 := by kernel_rfl
  have c32 : Tryd.prog.cellsOf 30 = 32 := by kernel_rfl
  obtain ⟨cm, g0, _, _⟩ := DataW.trod_int Tryd.underlying3 e0
  obtain ⟨cn, g1, _, _⟩ := DataW.trod_int Tryd.underlying3 e1
  obtain ⟨a, g2⟩ := hash_of_trod Tryd.underlying30 Tryd.underlying5 (by kernel_rfl) c32 e2
  obtain ⟨b, g3⟩ := hash_of_trod Tryd.underlying30 Tryd.underlying5 (by kernel_rfl) c32 e3
  change (cs.toList.drop 0).take (Tryd.prog.cellsOf 3) = _ at g0
  change (cs.toList.drop 1).take (Tryd.prog.cellsOf 3) = _ at g1
  change (cs.toList.drop 2).take (Tryd.prog.cellsOf 30) = _ at g2
  change (cs.toList.drop 34).take (Tryd.prog.cellsOf 30) = _ at g3
  rw [c1, List.drop_zero] at g0
  rw [c1] at g1
  rw [c32] at g2 g3
  refine ⟨cm, cn, a, b, ?_⟩
  have hp := parts4 cs.toList 1 1 32 32 hl
  rw [g0, g1, g2, g3] at hp
  have e' : cs.toList = clC cm cn a b := hp
  rw [← e']
end Go.Proofs.YtjkfeonbioccmaaDoor
