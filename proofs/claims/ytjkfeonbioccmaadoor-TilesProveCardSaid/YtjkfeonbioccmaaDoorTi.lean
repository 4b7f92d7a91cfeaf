/- Speculum proofs: the chapter's leaves in tiles. -/
import Derived.Test.YtjkfeonbioccmaaDoorTh
import Derived.Test.YtjkfeonbioccmaaDoorPh

namespace Go.Proofs.YtjkfeonbioccmaaDoor
open Go Go.Sx Go.RowKit
set_option linter.unusedVariables false
set_option linter.unusedSimpArgs false
set_option maxRecDepth 100000
set_option maxHeartbeats 2000000
variable {Gl F : World → Prop}
theorem split3' : split 3 = 2 := by
  rw [split, if_neg (by decide), show Nat.log2 (3 - 1) = 1 from by rw [Nat.log2_eq_iff (by decide)]; decide]
theorem root3' (a b c : H) : root [a, b, c] = node (node a b) c := by
  rw [root_two [a, b, c] (by show 2 ≤ 3; decide), show split [a, b, c].length = 2 from split3']
  show node (root [a, b]) (root [c]) = _
  rw [root2, root_one]
theorem root4' (a b c d : H) : root [a, b, c, d] = node (node a b) (node c d) := by
  rw [root_two [a, b, c, d] (by show 2 ≤ 4; decide), show split [a, b, c, d].length = 2 from split4]
  show node (root [a, b]) (root [c, d]) = _
  rw [root2, root2]
theorem path5_2 (a b c d e : H) : path [a, b, c, d, e] 2 = [d, node a b, e] := by
  rw [path_left _ 2 (by show 2 ≤ 5; decide) (by show 2 < split 5; rw [split5]; decide), show split [a, b, c, d, e].length = 4 from split5]
  show path [a, b, c, d] 2 ++ [root [e]] = _
  rw [path_right _ 2 (by show 2 ≤ 4; decide) (by show ¬ 2 < split 4; rw [split4]; decide), show split [a, b, c, d].length = 2 from split4]
  show (path [c, d] 0 ++ [root [a, b]]) ++ [root [e]] = _
  rw [path_left _ 0 (by show 2 ≤ 2; decide) (by show 0 < split 2; rw [split2]; decide), show split [c, d].length = 1 from split2]
  show ((path [c] 0 ++ [root [d]]) ++ [root [a, b]]) ++ [root [e]] = _
  rw [path_one [c] 0 (Nat.le_refl _), root2, root_one, root_one]
  rfl
theorem tile5_11 (a b c d e : H) : tile [a, b, c, d, e] 1 1 = some (node c d) := by
  rw [show tile [a, b, c, d, e] 1 1 = some (root [c, d]) from if_pos (show 0 ≤ (1 : Int) ∧ 0 ≤ (1 : Int) ∧ (Int.toNat 1 + 1) * 2 ^ Int.toNat 1 ≤ 5 by decide), root2]
theorem tile5_12 (a b c d e : H) : tile [a, b, c, d, e] 1 2 = none := if_neg (show ¬ (0 ≤ (1 : Int) ∧ 0 ≤ (2 : Int) ∧ (Int.toNat 2 + 1) * 2 ^ Int.toNat 1 ≤ 5) by decide)
theorem tile5_20 (a b c d e : H) : tile [a, b, c, d, e] 2 0 = some (node (node a b) (node c d)) := by
  rw [show tile [a, b, c, d, e] 2 0 = some (root [a, b, c, d]) from if_pos (show 0 ≤ (2 : Int) ∧ 0 ≤ (0 : Int) ∧ (Int.toNat 0 + 1) * 2 ^ Int.toNat 2 ≤ 5 by decide), root4']
theorem trt5_3 (a b c d e : H) : trt [a, b, c, d, e] 3 = node (node a b) c := by
  rw [show trt [a, b, c, d, e] 3 = root [a, b, c] from if_neg (show ¬ ((3 : Int) < 0 ∨ ((5 : Nat) : Int) < 3) by decide), root3']
theorem tpth5 (a b c d e : H) : tpth [a, b, c, d, e] 2 5 = [d, node a b, e] := by
  rw [show tpth [a, b, c, d, e] 2 5 = path [a, b, c, d, e] 2 from if_neg (show ¬ ((5 : Int) < 0 ∨ ((5 : Nat) : Int) < 5 ∨ (2 : Int) < 0 ∨ (5 : Int) ≤ 2) by decide), path5_2]
theorem tpf5 (a b c d e : H) : tpf [a, b, c, d, e] 3 5 = [c, d, node a b, e] := by
  have := (prf_tpf [a, b, c, d, e] 3 5 (show 5 ≤ 5 by decide) (by decide)).1
  rw [show List.take 5 [a, b, c, d, e] = [a, b, c, d, e] from rfl, prf5_3] at this
  exact this.symm
theorem ab_nz (a b c d e : H) (h : someL 5 6 = [a, b, c, d, e]) : node a b ≠ H.zero := by
  have h1 : ((node ((someL 5 6)[0]?.getD H.zero) ((someL 5 6)[1]?.getD H.zero)).b.headD 0 == 206) = true := by kernel_rfl
  rw [h] at h1
  intro h2
  rw [show ([a, b, c, d, e][0]?.getD H.zero) = a from rfl, show ([a, b, c, d, e][1]?.getD H.zero) = b from rfl, h2] at h1
  exact absurd h1 (by decide)
theorem tnode_fnE (T m n : Nat) (es : Array MapEntry) (clock : Nat) (f : Int → Int → Option H) (hM : Mp es f) (a b : Int) (ha : in64 a) (hb : in64 b) (x : H) (v : Bool) (hx : (f a b).getD H.zero = x) (hv' : (f a b).isSome = v) (hF : ∀ w, F w → Tt T m n es clock w) : PureFn Tryd.prog Gl 33 [.pointer (some ⟨T, 0, none⟩), .int .i64 a, .int .i64 b] F (.tuple #[hv x, .bool v]) := by
  subst hx hv'; exact tnode_fn T m n es clock f hM a b ha hb hF
theorem tRoot_fnE (T m n : Nat) (es : Array MapEntry) (clock : Nat) (l : List H) (hM : Mp es (tile l)) (hn : l.length = n) (hN : n ≤ 4096) (z : Int) (x : H) (v : Int) (hx : trt l z = x) (hv' : wthE n z = v) (hF : ∀ w, F w → Tt T m n es clock w) :
    PureFn Tryd.prog Gs 35 [.pointer (some ⟨T, 0, none⟩), .int .i64 z] F (.tuple #[hv x, .int .i64 v]) := by
  subst hx hv'; exact tRoot_fn T m n es clock l hM hn hN z hF
theorem tPath_fnE (T m n : Nat) (es : Array MapEntry) (clock : Nat) (l : List H) (hM : Mp es (tile l)) (hn : l.length = n) (hN : n ≤ 4096) (i z : Int) (q : List H) (x : Int) (hq : tpth l i z = q) (hx : tpthE l i z = x) (hF : ∀ w, F w → Tt T m n es clock w) :
    FnSpec Tryd.prog Gs 37 [.pointer (some ⟨T, 0, none⟩), .int .i64 i, .int .i64 z] [] F (ι := Option Addr × Nat) (fun i => q.length ≤ i.2) (fun i => .tuple #[.slice i.1 q.length i.2, .int .i64 x]) (OwnL q) (fun _ _ => True) := by
  subst hq hx; exact tPath_fn T m n es clock l hM hn hN i z hF
theorem tProof_fnE (T m n : Nat) (es : Array MapEntry) (clock : Nat) (l : List H) (hM : Mp es (tile l)) (hn : l.length = n) (hN : n ≤ 4096) (i z : Int) (q : List H) (x : Int) (hq : tpf l i z = q) (hx : tpfE l i z = x) (hF : ∀ w, F w → Tt T m n es clock w) :
    FnSpec Tryd.prog Gs 39 [.pointer (some ⟨T, 0, none⟩), .int .i64 i, .int .i64 z] [] F (ι := Option Addr × Nat) (fun i => q.length ≤ i.2) (fun i => .tuple #[.slice i.1 q.length i.2, .int .i64 x]) (OwnL q) (fun _ _ => True) := by
  subst hq hx; exact tProof_fn T m n es clock l hM hn hN i z hF
end Go.Proofs.YtjkfeonbioccmaaDoor
