/- Speculum proofs: closed facts of the program that each row asks for. -/
import Derived.Test.YtjkfeonbioccmaaDoorLw
import Derived.Test.YtjkfeonbioccmaaDoorCards
namespace Go.Proofs.YtjkfeonbioccmaaDoor
open Go
set_option maxRecDepth 100000
theorem band {a b : Bool} (ha : a = true) (hb : b = true) : (a && b) = true := by rw [ha, hb]; rfl
theorem strip_cut (rest : List (List Char)) : stripLifts liftWords ("cut".toList :: rest) = ([], "cut".toList :: rest) := by kernel_rfl
theorem may_of (P : Program) (rest : List (List Char)) (h : behindMainWord (wordsSigns P.initOrder.toList) = "cut".toList :: rest) (h1 : P.laysLater = false) (h2 : P.bearsReflect = false) (h3 : P.doorFits [] = true) : P.mayEnter = true := by
  unfold Program.mayEnter
  rw [h]
  dsimp only
  rw [strip_cut]
  dsimp only
  rw [h1, h2, h3]
  have e1 : ("cut".toList == "gc".toList || "cut".toList == "spec".toList) = false := by kernel_rfl
  have e2 : ("cut".toList == "carried".toList) = false := by kernel_rfl
  rw [e1, e2]
  have e3 : (List.head? ("cut".toList :: rest) == some "cut".toList) = true := by simp
  rw [e3]
  rfl
theorem final_of (P : Program) (rest : List (List Char)) (h : behindMainWord (wordsSigns P.initOrder.toList) = "cut".toList :: rest) : P.liftsFinal = false := by
  unfold Program.liftsFinal Program.headLifts
  rw [h]
  dsimp only
  rw [strip_cut]
  dsimp only
  have e2 : (List.head? ("cut".toList :: rest) == some "carried".toList) = false := by kernel_rfl
  rw [e2, if_pos (by simp)]
  rfl
theorem make_of (P : Program) (rest : List (List Char)) (h : behindMainWord (wordsSigns P.initOrder.toList) = "cut".toList :: rest) : P.make = some .cut := by
  unfold Program.make
  rw [h]
  dsimp only
  have e1 : ("cut".toList == "gc".toList || "cut".toList == "spec".toList) = false := by kernel_rfl
  have e2 : ("cut".toList == "cut".toList || ("cut".toList == "finals".toList && rest.head? == some "cut".toList)) = true := by simp
  rw [e1, e2]
  rfl
theorem main_of (P : Program) (s : List Char) (rest : List (List Char)) (h : wordsSigns P.initOrder.toList = "harness".toList :: s :: rest) (hs : isSumSigns s = true) : P.mainIs = some (true, s) := by
  unfold Program.mainIs
  rw [h]
  dsimp only
  rw [hs]
  rfl
theorem lcons {α : Type} {l : List α} {a : α} (h : l.head? = some a) : ∃ r, l = a :: r := by
  cases l with
  | nil => cases h
  | cons b r => exact ⟨r, by injection h with h; rw [h]⟩
theorem lcons2 {α : Type} {l : List α} {a b : α} (h : l.take 2 = [a, b]) : ∃ r, l = a :: b :: r := by
  match l, h with
  | x :: y :: r, h =>
    simp only [List.take_succ_cons, List.take_zero, List.cons.injEq, and_true] at h
    exact ⟨r, by rw [h.1, h.2]⟩
/-- The words that the translation opens with. -/
theorem words : ∃ rest, behindMainWord (wordsSigns Tryd.prog.initOrder.toList) = "cut".toList :: rest := by
  obtain ⟨L, h1, h2⟩ : ∃ L, Tryd.prog.initOrder = String.ofList L ∧ (behindMainWord (wordsSigns L)).head? = some "cut".toList := ⟨_, rfl, by kernel_rfl⟩
  rw [h1, String.toList_ofList]
  exact lcons h2
theorem words2 : ∃ rest, wordsSigns Tryd.prog.initOrder.toList = "harness".toList :: "05d9cb915d7dc385c0a18e33fb58cf319a034fde1f25559775d258e4dd70a77f".toList :: rest := by
  obtain ⟨L, h1, h2⟩ : ∃ L, Tryd.prog.initOrder = String.ofList L ∧ (wordsSigns L).take 2 = ["harness".toList, "05d9cb915d7dc385c0a18e33fb58cf319a034fde1f25559775d258e4dd70a77f".toList] := ⟨_, rfl, by kernel_rfl⟩
  rw [h1, String.toList_ofList]
  exact lcons2 h2
theorem fMay : Tryd.prog.mayEnter = true := by
  obtain ⟨r, h⟩ := words
  exact may_of _ r h (by kernel_rfl) (by kernel_rfl) (by kernel_rfl)
theorem fFinal : Tryd.prog.liftsFinal = false := by
  obtain ⟨r, h⟩ := words
  exact final_of _ r h
theorem fMake : Tryd.prog.make = some .cut := by
  obtain ⟨r, h⟩ := words
  exact make_of _ r h
theorem fMain : Tryd.pinned.checked.prog.mainIs = some (true, "05d9cb915d7dc385c0a18e33fb58cf319a034fde1f25559775d258e4dd70a77f".toList) := by
  obtain ⟨r, h⟩ := words2
  exact main_of Tryd.prog _ r h (by kernel_rfl)
theorem fRowed : mapsRowed Tryd.prog = true := by kernel_rfl
theorem fHeard : Tryd.prog.stopsHeard = true := by kernel_rfl
theorem fLooks : true = Tryd.pinned.checked.prog.looks [] := by kernel_rfl
end Go.Proofs.YtjkfeonbioccmaaDoor
