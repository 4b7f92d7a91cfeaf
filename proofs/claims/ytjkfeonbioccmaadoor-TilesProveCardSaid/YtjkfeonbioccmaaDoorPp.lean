/- Speculum proofs: paths, in plain words: what they are, what is climbed by them, that halving leads the way that the splits lead. -/
import Derived.Test.YtjkfeonbioccmaaDoorPg
namespace Go.Sx
open Go Go.RowKit
set_option linter.unusedVariables false
set_option linter.unusedSimpArgs false
def pathF : Nat → List H → Nat → List H
  | 0, _, _ => []
  | f + 1, l, i => if l.length ≤ 1 then [] else if i < split l.length then pathF f (l.take (split l.length)) i ++ [root (l.drop (split l.length))]
    else pathF f (l.drop (split l.length)) (i - split l.length) ++ [root (l.take (split l.length))]
/-- What proves that a leaf is among leaves. -/
def path (l : List H) (i : Nat) : List H := pathF l.length l i
theorem pathF_eq : ∀ (f g : Nat) (l : List H) (i : Nat), l.length ≤ f + 1 → l.length ≤ g + 1 → pathF f l i = pathF g l i := by
  intro f
  induction f with
  | zero =>
    intro g l i hf hg
    cases g with
    | zero => rfl
    | succ g => rw [pathF, pathF, if_pos (by omega)]
  | succ f ih =>
    intro g l i hf hg
    by_cases hm : l.length ≤ 1
    · cases g with
      | zero => rw [pathF, pathF, if_pos hm]
      | succ g => rw [pathF, pathF, if_pos hm, if_pos hm]
    · have hs := split_spec (show 2 ≤ l.length by omega)
      cases g with
      | zero => omega
      | succ g =>
        rw [pathF, pathF, if_neg hm, if_neg hm]
        by_cases hk : i < split l.length
        · rw [if_pos hk, if_pos hk, ih g _ _ (by rw [List.length_take]; omega) (by rw [List.length_take]; omega)]
        · rw [if_neg hk, if_neg hk, ih g _ _ (by rw [List.length_drop]; omega) (by rw [List.length_drop]; omega)]
theorem path_one (l : List H) (i : Nat) (h : l.length ≤ 1) : path l i = [] := by
  unfold path
  obtain h0 | h1 : l.length = 0 ∨ l.length = 1 := by omega
  · rw [h0]; rfl
  · rw [h1, pathF, if_pos h]
theorem path_left (l : List H) (i : Nat) (h2 : 2 ≤ l.length) (h : i < split l.length) : path l i = path (l.take (split l.length)) i ++ [root (l.drop (split l.length))] := by
  have hs := split_spec h2
  obtain ⟨f, hf⟩ : ∃ f, l.length = f + 1 := ⟨l.length - 1, by omega⟩
  unfold path
  rw [hf, pathF, if_neg (by omega), if_pos h, pathF_eq f (l.take (split l.length)).length _ _ (by rw [List.length_take]; omega) (by omega), hf]
theorem path_right (l : List H) (i : Nat) (h2 : 2 ≤ l.length) (h : ¬ i < split l.length) : path l i = path (l.drop (split l.length)) (i - split l.length) ++ [root (l.take (split l.length))] := by
  have hs := split_spec h2
  obtain ⟨f, hf⟩ : ∃ f, l.length = f + 1 := ⟨l.length - 1, by omega⟩
  unfold path
  rw [hf, pathF, if_neg (by omega), if_neg h, pathF_eq f (l.drop (split l.length)).length _ _ (by rw [List.length_drop]; omega) (by omega), hf]
theorem path_le : ∀ (t : Nat) (l : List H) (i : Nat), l.length ≤ 2 ^ t → (path l i).length ≤ t := by
  intro t
  induction t with
  | zero =>
    intro l i h
    rw [path_one l i (by simpa using h)]; exact Nat.zero_le _
  | succ t ih =>
    intro l i h
    by_cases h2 : 2 ≤ l.length
    · have hs := split_spec h2
      have hk : split l.length ≤ 2 ^ t := by
        obtain ⟨j, hj⟩ := split_pow h2
        rw [hj]
        have h5 : 2 ^ j < 2 ^ (t + 1) := by rw [← hj]; omega
        have h6 : j < t + 1 := (Nat.pow_lt_pow_iff_right (show 1 < 2 by decide)).1 h5
        exact Nat.pow_le_pow_right (by decide) (by omega)
      by_cases hi : i < split l.length
      · rw [path_left l i h2 hi, List.length_append]
        have := ih (l.take (split l.length)) i (by rw [List.length_take]; omega)
        simpa using this
      · rw [path_right l i h2 hi, List.length_append]
        have := ih (l.drop (split l.length)) (i - split l.length) (by rw [List.length_drop]; omega)
        simpa using this
    · rw [path_one l i (by omega)]; exact Nat.zero_le _

/-! ### climbing -/
def climb : List Bool → H → List H → Option H
  | [], a, [] => some a
  | [], _, _ :: _ => none
  | _ :: _, _, [] => none
  | true :: ds, a, h :: p => climb ds (node h a) p
  | false :: ds, a, h :: p => climb ds (node a h) p
def stepC (d : Bool) (h a : H) : H := if d then node h a else node a h
theorem climb_len : ∀ (ds : List Bool) (a : H) (p : List H), p.length ≠ ds.length → climb ds a p = none := by
  intro ds
  induction ds with
  | nil => intro a p h; cases p with
    | nil => simp at h
    | cons x p => rfl
  | cons d ds ih =>
    intro a p h
    cases p with
    | nil => rfl
    | cons x p =>
      have hp : p.length ≠ ds.length := by simpa using h
      cases d
      · exact ih _ p hp
      · exact ih _ p hp
theorem climb_snoc : ∀ (ds : List Bool) (d : Bool) (a : H) (p : List H) (h : H), climb (ds ++ [d]) a (p ++ [h]) = (climb ds a p).map (stepC d h) := by
  intro ds
  induction ds with
  | nil =>
    intro d a p h
    cases p with
    | nil => cases d <;> rfl
    | cons x p =>
      have : climb ([] ++ [d]) a (x :: p ++ [h]) = none := climb_len _ _ _ (by simp)
      rw [this]; rfl
  | cons e ds ih =>
    intro d a p h
    cases p with
    | nil =>
      have : climb (e :: ds ++ [d]) a ([] ++ [h]) = none := climb_len _ _ _ (by simp)
      rw [this]; rfl
    | cons x p =>
      cases e
      · exact ih d _ p h
      · exact ih d _ p h
theorem up_down_l (i n : Nat) (h2 : 2 ≤ n) (h : i < split n) : up i (n - 1) = up i (split n - 1) ++ [false] := by
  have hs := split_spec h2
  obtain ⟨j, hj⟩ := split_pow h2
  have hdiv : (n - 1) / 2 ^ j = 1 := by
    rw [← hj]
    exact Nat.div_eq_of_lt_le (by omega) (by omega)
  rw [hj]
  exact up_left j i (n - 1) (by rw [← hj]; exact h) hdiv
theorem up_down_r (i n : Nat) (h2 : 2 ≤ n) (hi : i < n) (h : ¬ i < split n) : up i (n - 1) = up (i - split n) (n - split n - 1) ++ [true] := by
  have hs := split_spec h2
  obtain ⟨j, hj⟩ := split_pow h2
  have := up_right j (i - split n) (n - split n - 1) (by omega) (by rw [← hj]; omega)
  rw [← hj, show i - split n + split n = i by omega, show n - split n - 1 + split n = n - 1 by omega] at this
  exact this
/-- A path is climbed to the root. -/
theorem climb_path : ∀ (N : Nat) (l : List H) (i : Nat) (x : H), l.length ≤ N → l[i]? = some x → climb (up i (l.length - 1)) x (path l i) = some (root l) := by
  intro N
  induction N with
  | zero =>
    intro l i x h0 hx
    obtain ⟨hi, _⟩ := List.getElem?_eq_some_iff.1 hx
    omega
  | succ N ih =>
    intro l i x h0 hx
    obtain ⟨hi, _⟩ := List.getElem?_eq_some_iff.1 hx
    by_cases h2 : 2 ≤ l.length
    · have hs := split_spec h2
      by_cases hk : i < split l.length
      · have := ih (l.take (split l.length)) i x (by rw [List.length_take]; omega) (by rw [List.getElem?_take_of_lt hk]; exact hx)
        rw [List.length_take, Nat.min_eq_left (by omega)] at this
        rw [up_down_l i _ h2 hk, path_left l i h2 hk, climb_snoc, this, root_two l h2]
        rfl
      · have := ih (l.drop (split l.length)) (i - split l.length) x (by rw [List.length_drop]; omega) (by rw [List.getElem?_drop, show split l.length + (i - split l.length) = i by omega]; exact hx)
        rw [List.length_drop] at this
        rw [up_down_r i _ h2 hi hk, path_right l i h2 hk, climb_snoc, this, root_two l h2]
        rfl
    · match l, hi, hx, h2 with
      | [y], hi, hx, h2 =>
        obtain rfl : i = 0 := by simpa using hi
        simp only [List.getElem?_cons_zero, Option.some.injEq] at hx
        subst hx
        rw [path_one _ _ (by simp)]
        rfl
      | y :: z :: r, hi, hx, h2 => simp at h2
/-- What a leaf, its number and a path come to. -/
def comeF : Nat → H → Nat → Nat → List H → H × Bool
  | 0, leaf, _, _, _ => (leaf, false)
  | f + 1, leaf, i, n, p => if n = 1 then (leaf, decide (p.length = 0)) else if p.length = 0 then (leaf, false) else
    if i < split n then (node (comeF f leaf i (split n) (p.take (p.length - 1))).1 (p.getD (p.length - 1) H.zero), (comeF f leaf i (split n) (p.take (p.length - 1))).2)
    else (node (p.getD (p.length - 1) H.zero) (comeF f leaf (i - split n) (n - split n) (p.take (p.length - 1))).1, (comeF f leaf (i - split n) (n - split n) (p.take (p.length - 1))).2)
theorem come_climb : ∀ (f : Nat) (leaf : H) (i n : Nat) (p : List H), 1 ≤ n → i < n → n ≤ f → climb (up i (n - 1)) leaf p = (if (comeF f leaf i n p).2 = true then some (comeF f leaf i n p).1 else none) := by
  intro f
  induction f with
  | zero => intro leaf i n p h1 h2 h3; omega
  | succ f ih =>
    intro leaf i n p h1 h2 h3
    by_cases hn : n = 1
    · subst hn
      rw [comeF, if_pos rfl]
      cases p with
      | nil => rfl
      | cons x p => rfl
    · have hs := split_spec (show 2 ≤ n by omega)
      rw [comeF, if_neg hn]
      by_cases hp : p.length = 0
      · rw [if_pos hp]
        obtain rfl : p = [] := List.eq_nil_of_length_eq_zero hp
        by_cases hk : i < split n
        · rw [up_down_l i n (by omega) hk, climb_len _ _ _ (by simp)]; rfl
        · rw [up_down_r i n (by omega) h2 hk, climb_len _ _ _ (by simp)]; rfl
      · rw [if_neg hp]
        have hl := take_last p hp
        by_cases hk : i < split n
        · rw [if_pos hk, up_down_l i n (by omega) hk]
          have := ih leaf i (split n) (p.take (p.length - 1)) hs.1 hk (by omega)
          conv => lhs; rw [hl]
          rw [climb_snoc, this]
          dsimp only
          split <;> rfl
        · rw [if_neg hk, up_down_r i n (by omega) h2 hk]
          have := ih leaf (i - split n) (n - split n) (p.take (p.length - 1)) (by omega) (by omega) (by omega)
          conv => lhs; rw [hl]
          rw [climb_snoc, this]
          dsimp only
          split <;> rfl
/-- The verdict on a path. -/
def pchk (leaf : H) (i n : Int) (p : List H) (r : H) : Int := if n < 1 ∨ 4096 < n ∨ i < 0 ∨ n ≤ i then 2 else if climb (up i.toNat (n.toNat - 1)) leaf p = some r then 0 else 80
def pth (l : List H) (i : Int) : List H := if i < 0 ∨ (l.length : Int) ≤ i then [] else path l i.toNat
def pthE (l : List H) (i : Int) : Int := if i < 0 ∨ (l.length : Int) ≤ i then 2 else 0
theorem pchk_path (l : List H) (i : Nat) (x : H) (hx : l[i]? = some x) (hl : l.length ≤ 4096) : pchk x i l.length (pth l i) (root l) = 0 := by
  obtain ⟨hi, _⟩ := List.getElem?_eq_some_iff.1 hx
  unfold pchk pth
  rw [if_neg (show ¬ ((l.length : Int) < 1 ∨ 4096 < (l.length : Int) ∨ (i : Int) < 0 ∨ (l.length : Int) ≤ (i : Int)) by omega), if_neg (show ¬ ((i : Int) < 0 ∨ (l.length : Int) ≤ (i : Int)) by omega), Int.toNat_natCast, Int.toNat_natCast]
  exact if_pos (climb_path l.length l i x (Nat.le_refl _) hx)
end Go.Sx
