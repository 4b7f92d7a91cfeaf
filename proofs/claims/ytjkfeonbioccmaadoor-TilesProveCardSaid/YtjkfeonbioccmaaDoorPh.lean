/- Speculum proofs: plain laws of the proofs that trees are beginnings: they are checked, they are short, one of another length is not checked. -/
import Derived.Test.YtjkfeonbioccmaaDoorSxX
namespace Go.Sx
open Go Go.RowKit
set_option linter.unusedVariables false
set_option linter.unusedSimpArgs false
theorem sub_length (l : List H) (m : Nat) (known : Bool) (h1 : 1 ≤ m) (h2 : m ≤ l.length) : (sub l m known).length = (dirs m l.length).length + (if known = true ∧ true ∉ dirs m l.length then 0 else 1) := by
  rcases Decidable.em ((sub l m known).length = (dirs m l.length).length + (if known = true ∧ true ∉ dirs m l.length then 0 else 1)) with h | h
  · exact h
  · have := start_sub l.length l m known (Nat.le_refl _) h1 h2
    rw [start_len _ _ _ _ h] at this
    cases this
theorem prf_in (l : List H) (m : Nat) (h1 : 1 ≤ m) (h2 : m ≤ l.length) : prf l (m : Int) = sub l m true := by
  unfold prf
  rw [if_neg (by omega), Int.toNat_natCast]
theorem prf_out (l : List H) (m : Int) (h : m ≤ 0 ∨ (l.length : Int) < m) : prf l m = [] := if_pos h
theorem prf_le (l : List H) (m : Int) (t : Nat) (h : l.length ≤ 2 ^ t) : (prf l m).length ≤ t + 1 := by
  by_cases hm : m ≤ 0 ∨ (l.length : Int) < m
  · rw [prf_out l m hm]; simp
  · obtain ⟨k, rfl⟩ : ∃ k : Nat, m = k := ⟨m.toNat, by omega⟩
    rw [prf_in l k (by omega) (by omega), sub_length l k true (by omega) (by omega)]
    have := dirs_len t k l.length (by omega) (by omega) h
    split <;> omega
theorem chk_eq (m n : Nat) (a b : H) (p : List H) (h : m ≤ n) (hn : n ≤ 4096) : chk m n a b p = if chkOk m n a b p = true then 0 else 80 := by
  unfold chk
  rw [if_neg (by omega), Int.toNat_natCast, Int.toNat_natCast]
theorem chk_prf (l : List H) (m : Nat) (hm : m ≤ l.length) (hl : l.length ≤ 4096) : chk m l.length (root (l.take m)) (root l) (prf l m) = 0 := by
  rw [chk_eq _ _ _ _ _ hm hl]
  refine if_pos ?_
  unfold chkOk
  by_cases h0 : m = 0
  · subst h0
    rw [if_pos rfl, prf_out l _ (.inl (by omega))]
    by_cases hl0 : l = []
    · subst hl0; simp [root_nil]
    · have : 0 < l.length := List.length_pos_iff.2 hl0
      simp [root_nil, this]
  · rw [if_neg h0]
    by_cases hn : m = l.length
    · rw [if_pos hn, prf_in l m (by omega) hm, sub_all l m true hn, List.take_of_length_le (by omega)]
      simp
    · rw [if_neg hn, prf_in l m (by omega) hm]
      unfold verdict
      rw [start_sub l.length l m true (Nat.le_refl _) (by omega) hm]
      simp
theorem chk_other (l : List H) (m n : Nat) (a b : H) (p : List H) (hm : m ≤ l.length) (hn : l.length = n) (hl : l.length ≤ 4096) (hp : p.length ≠ (prf l m).length) : chk m n a b p = 80 := by
  subst hn
  rw [chk_eq _ _ _ _ _ hm hl]
  refine if_neg ?_
  unfold chkOk
  by_cases h0 : m = 0
  · subst h0
    rw [prf_out l _ (.inl (by omega))] at hp
    have : p.length ≠ 0 := hp
    rw [if_pos rfl]
    simp [this]
  · rw [if_neg h0]
    rw [prf_in l m (by omega) hm] at hp
    by_cases hn : m = l.length
    · rw [sub_all l m true hn] at hp
      have : p.length ≠ 0 := hp
      rw [if_pos hn]
      simp [this]
    · rw [sub_length l m true (by omega) hm] at hp
      rw [if_neg hn]
      unfold verdict
      rw [start_len _ _ _ _ hp]
      simp
theorem split2 : split 2 = 1 := by decide +kernel
theorem split3 : split 3 = 2 := by decide +kernel
theorem split4 : split 4 = 2 := by decide +kernel
theorem split5 : split 5 = 4 := by decide +kernel
theorem root2 (a b : H) : root [a, b] = node a b := by
  rw [root_two [a, b] (Nat.le_refl 2), show split [a, b].length = 1 from split2]
  rfl
theorem prf5_3 (a b c d e : H) : prf [a, b, c, d, e] ((3 : Nat) : Int) = [c, d, node a b, e] := by
  rw [prf_in _ 3 (by decide) (by show 3 ≤ 5; decide), sub_left _ 3 true (by decide) (by show 3 < 5; decide) (by show 3 ≤ split 5; rw [split5]; decide), show split [a, b, c, d, e].length = 4 from split5]
  show sub [a, b, c, d] 3 true ++ [root [e]] = _
  rw [sub_right _ 3 true (by show 3 < 4; decide) (by show ¬ 3 ≤ split 4; rw [split4]; decide), show split [a, b, c, d].length = 2 from split4]
  show (sub [c, d] 1 false ++ [root [a, b]]) ++ [root [e]] = _
  rw [sub_left _ 1 false (by decide) (by show 1 < 2; decide) (by show 1 ≤ split 2; rw [split2]; decide), show split [c, d].length = 1 from split2]
  show ((sub [c] 1 false ++ [root [d]]) ++ [root [a, b]]) ++ [root [e]] = _
  rw [sub_all _ 1 false rfl, root2]
  rfl
theorem prf5_4 (a b c d e : H) : prf [a, b, c, d, e] ((4 : Nat) : Int) = [e] := by
  rw [prf_in _ 4 (by decide) (by show 4 ≤ 5; decide), sub_left _ 4 true (by decide) (by show 4 < 5; decide) (by show 4 ≤ split 5; rw [split5]; decide), show split [a, b, c, d, e].length = 4 from split5]
  show sub [a, b, c, d] 4 true ++ [root [e]] = _
  rw [sub_all _ 4 true rfl]
  rfl
theorem prf5_5 (a b c d e : H) : prf [a, b, c, d, e] ((5 : Nat) : Int) = [] := by
  rw [prf_in _ 5 (by decide) (by show 5 ≤ 5; decide), sub_all _ 5 true rfl]
  rfl
end Go.Sx
