/- Speculum proofs: the way from a leaf to the root, by halving. No program in sight. -/
import Derived.Test.YtjkfeonbioccmaaDoorPf
namespace Go.Sx
open Go Go.RowKit
set_option linter.unusedVariables false
set_option linter.unusedSimpArgs false

def stF : Nat → Nat → Nat → Nat × Nat
  | 0, i, l => (i, l)
  | f + 1, i, l => if i % 2 = 1 then stF f (i / 2) (l / 2) else (i, l)
/-- Odd ones are halved. -/
def st (i l : Nat) : Nat × Nat := stF (i + 1) i l
theorem stF_eq : ∀ (f g i l : Nat), i < f → i < g → stF f i l = stF g i l := by
  intro f
  induction f with
  | zero => intro g i l h; omega
  | succ f ih =>
    intro g i l h1 h2
    cases g with
    | zero => omega
    | succ g =>
      rw [stF, stF]
      by_cases h : i % 2 = 1
      · rw [if_pos h, if_pos h, ih g _ _ (by omega) (by omega)]
      · rw [if_neg h, if_neg h]
theorem st_odd {i l : Nat} (h : i % 2 = 1) : st i l = st (i / 2) (l / 2) := by
  unfold st
  rw [stF, if_pos h, stF_eq i (i / 2 + 1) _ _ (by omega) (by omega)]
theorem st_even {i l : Nat} (h : ¬ i % 2 = 1) : st i l = (i, l) := by
  unfold st
  rw [stF, if_neg h]
def evF : Nat → Nat → Nat → Nat × Nat
  | 0, i, l => (i, l)
  | f + 1, i, l => if i % 2 = 0 ∧ 0 < i then evF f (i / 2) (l / 2) else (i, l)
/-- Even ones are halved. -/
def evn (i l : Nat) : Nat × Nat := evF (i + 1) i l
theorem evF_eq : ∀ (f g i l : Nat), i < f → i < g → evF f i l = evF g i l := by
  intro f
  induction f with
  | zero => intro g i l h; omega
  | succ f ih =>
    intro g i l h1 h2
    cases g with
    | zero => omega
    | succ g =>
      rw [evF, evF]
      by_cases h : i % 2 = 0 ∧ 0 < i
      · rw [if_pos h, if_pos h, ih g _ _ (by omega) (by omega)]
      · rw [if_neg h, if_neg h]
theorem evn_even {i l : Nat} (h : i % 2 = 0 ∧ 0 < i) : evn i l = evn (i / 2) (l / 2) := by
  unfold evn
  rw [evF, if_pos h, evF_eq i (i / 2 + 1) _ _ (by omega) (by omega)]
theorem evn_stop {i l : Nat} (h : ¬ (i % 2 = 0 ∧ 0 < i)) : evn i l = (i, l) := by
  unfold evn
  rw [evF, if_neg h]
theorem evn_le : ∀ (m i l : Nat), i ≤ m → (evn i l).2 ≤ l := by
  intro m
  induction m with
  | zero => intro i l h; rw [evn_stop (by omega)]; exact Nat.le_refl _
  | succ m ih =>
    intro i l h
    by_cases h2 : i % 2 = 0 ∧ 0 < i
    · rw [evn_even h2]
      have := ih (i / 2) (l / 2) (by omega)
      omega
    · rw [evn_stop h2]; exact Nat.le_refl _
def upF : Nat → Nat → Nat → List Bool
  | 0, _, _ => []
  | f + 1, i, l => if l = 0 then [] else if i % 2 = 1 ∨ i = l then true :: upF f ((evn i l).1 / 2) ((evn i l).2 / 2) else false :: upF f (i / 2) (l / 2)
/-- The way up. -/
def up (i l : Nat) : List Bool := upF l i l
theorem upF_eq : ∀ (f g i l : Nat), l ≤ f → l ≤ g → upF f i l = upF g i l := by
  intro f
  induction f with
  | zero =>
    intro g i l h1 h2
    have : l = 0 := by omega
    subst this
    cases g <;> simp [upF]
  | succ f ih =>
    intro g i l h1 h2
    by_cases hl : l = 0
    · subst hl
      cases g <;> simp [upF]
    · cases g with
      | zero => omega
      | succ g =>
        have := evn_le i i l (Nat.le_refl _)
        rw [upF, upF, if_neg hl, if_neg hl, ih g ((evn i l).1 / 2) ((evn i l).2 / 2) (by omega) (by omega), ih g (i / 2) (l / 2) (by omega) (by omega)]
theorem up_zero (i : Nat) : up i 0 = [] := rfl
theorem up_R {i l : Nat} (hl : l ≠ 0) (h : i % 2 = 1 ∨ i = l) : up i l = true :: up ((evn i l).1 / 2) ((evn i l).2 / 2) := by
  obtain ⟨f, rfl⟩ : ∃ f, l = f + 1 := ⟨l - 1, by omega⟩
  have := evn_le i i (f + 1) (Nat.le_refl _)
  unfold up
  rw [upF, if_neg hl, if_pos h, upF_eq f ((evn i (f + 1)).2 / 2) _ _ (by omega) (Nat.le_refl _)]
theorem up_L {i l : Nat} (hl : l ≠ 0) (h : ¬ (i % 2 = 1 ∨ i = l)) : up i l = false :: up (i / 2) (l / 2) := by
  obtain ⟨f, rfl⟩ : ∃ f, l = f + 1 := ⟨l - 1, by omega⟩
  unfold up
  rw [upF, if_neg hl, if_neg h, upF_eq f ((f + 1) / 2) _ _ (by omega) (Nat.le_refl _)]
theorem div_one {l2 P : Nat} (h : l2 / (P * 2) = 1) : l2 / 2 / P = 1 := by rw [Nat.div_div_eq_div_mul, Nat.mul_comm 2 P]; exact h
theorem ge_of_div {l2 P : Nat} (hP : 0 < P) (h : l2 / P = 1) : P ≤ l2 := by
  rcases Nat.lt_or_ge l2 P with h' | h'
  · rw [Nat.div_eq_of_lt h'] at h; omega
  · exact h'
theorem up_left : ∀ (p i l2 : Nat), i < 2 ^ p → l2 / 2 ^ p = 1 → up i l2 = up i (2 ^ p - 1) ++ [false] := by
  intro p
  induction p with
  | zero =>
    intro i l2 hi h
    have h1 : i = 0 := by simpa using hi
    have h2 : l2 = 1 := by simpa using h
    subst h1; subst h2; rfl
  | succ p ih =>
    intro i l2 hi h
    have hp : 0 < 2 ^ p := Nat.pow_pos (by decide)
    have hge := ge_of_div (Nat.pow_pos (by decide)) h
    rw [Nat.pow_succ] at hi h hge ⊢
    have hhalf : (2 ^ p * 2 - 1) / 2 = 2 ^ p - 1 := by omega
    by_cases ho : i % 2 = 1
    · rw [up_R (by omega) (.inl ho), up_R (by omega) (.inl ho), evn_stop (by omega), evn_stop (by omega)]
      dsimp only
      rw [hhalf, ih (i / 2) (l2 / 2) (by omega) (div_one h)]; rfl
    · rw [up_L (i := i) (l := l2) (by omega) (by omega), up_L (i := i) (l := 2 ^ p * 2 - 1) (by omega) (by omega), hhalf, ih (i / 2) (l2 / 2) (by omega) (div_one h)]; rfl
theorem st_left : ∀ (p i l2 : Nat), i < 2 ^ p → l2 / 2 ^ p = 1 → up (st i l2).1 (st i l2).2 = up (st i (2 ^ p - 1)).1 (st i (2 ^ p - 1)).2 ++ [false] ∧ (st i l2).1 = (st i (2 ^ p - 1)).1 := by
  intro p
  induction p with
  | zero =>
    intro i l2 hi h
    have h1 : i = 0 := by simpa using hi
    have h2 : l2 = 1 := by simpa using h
    subst h1; subst h2; exact ⟨rfl, rfl⟩
  | succ p ih =>
    intro i l2 hi h
    by_cases ho : i % 2 = 1
    · rw [Nat.pow_succ] at hi h ⊢
      have hp : 0 < 2 ^ p := Nat.pow_pos (by decide)
      rw [st_odd ho, st_odd ho, show (2 ^ p * 2 - 1) / 2 = 2 ^ p - 1 by omega]
      exact ih (i / 2) (l2 / 2) (by omega) (div_one h)
    · rw [st_even ho, st_even ho]
      exact ⟨up_left (p + 1) i l2 hi h, rfl⟩
theorem st_pow : ∀ j, st (2 ^ j - 1) (2 ^ j - 1) = (0, 0) := by
  intro j
  induction j with
  | zero => rfl
  | succ j ih =>
    have hp : 0 < 2 ^ j := Nat.pow_pos (by decide)
    rw [Nat.pow_succ, st_odd (by omega), show (2 ^ j * 2 - 1) / 2 = 2 ^ j - 1 by omega, ih]
theorem evn_pow : ∀ p, evn (2 ^ p) (2 ^ p) = (1, 1) := by
  intro p
  induction p with
  | zero => rfl
  | succ p ih =>
    have hp : 0 < 2 ^ p := Nat.pow_pos (by decide)
    rw [Nat.pow_succ, evn_even (by omega), show 2 ^ p * 2 / 2 = 2 ^ p by omega, ih]
theorem evn_add : ∀ (p i l : Nat), 0 < i → i < 2 ^ p → i ≤ l → l < 2 ^ p → ∃ q, q + 1 ≤ p ∧ evn (i + 2 ^ p) (l + 2 ^ p) = ((evn i l).1 + 2 ^ (q + 1), (evn i l).2 + 2 ^ (q + 1)) ∧ (evn i l).1 ≤ (evn i l).2 ∧ (evn i l).2 < 2 ^ (q + 1) := by
  intro p
  induction p with
  | zero => intro i l h0 h1; simp at h1; omega
  | succ p ih =>
    intro i l h0 h1 h2 h3
    by_cases he : i % 2 = 0
    · have e : 2 ^ (p + 1) = 2 ^ p * 2 := Nat.pow_succ 2 p
      rw [e] at h1 h3 ⊢
      rw [evn_even (i := i + 2 ^ p * 2) (by omega), evn_even (i := i) (by omega), show (i + 2 ^ p * 2) / 2 = i / 2 + 2 ^ p by omega, show (l + 2 ^ p * 2) / 2 = l / 2 + 2 ^ p by omega]
      obtain ⟨q, hq, r⟩ := ih (i / 2) (l / 2) (by omega) (by omega) (by omega) (by omega)
      exact ⟨q, by omega, r⟩
    · refine ⟨p, Nat.le_refl _, ?_⟩
      have e : 2 ^ (p + 1) = 2 ^ p * 2 := Nat.pow_succ 2 p
      rw [evn_stop (i := i) (by omega), evn_stop (i := i + 2 ^ (p + 1)) (by omega)]
      exact ⟨rfl, h2, h3⟩
theorem up_right : ∀ (p i l : Nat), i ≤ l → l < 2 ^ p → up (i + 2 ^ p) (l + 2 ^ p) = up i l ++ [true] := by
  intro p
  induction p using Nat.strongRecOn with
  | _ p ih =>
    intro i l h1 h2
    have hp : 0 < 2 ^ p := Nat.pow_pos (by decide)
    by_cases hl : l = 0
    · have hi : i = 0 := by omega
      subst hl; subst hi
      rw [Nat.zero_add, up_R (by omega) (.inr rfl), evn_pow]; rfl
    · obtain ⟨p', rfl⟩ : ∃ q, p = q + 1 := by
        cases p with
        | zero => simp at h2; omega
        | succ q => exact ⟨q, rfl⟩
      have e : 2 ^ (p' + 1) = 2 ^ p' * 2 := Nat.pow_succ 2 p'
      by_cases hR : i % 2 = 1 ∨ i = l
      · obtain ⟨q, hq, h3, h4, h5⟩ := evn_add (p' + 1) i l (by omega) (by omega) h1 h2
        have e2 : 2 ^ (q + 1) = 2 ^ q * 2 := Nat.pow_succ 2 q
        rw [up_R (by omega) (by omega), up_R hl hR, h3]
        dsimp only
        rw [show ((evn i l).1 + 2 ^ (q + 1)) / 2 = (evn i l).1 / 2 + 2 ^ q by omega, show ((evn i l).2 + 2 ^ (q + 1)) / 2 = (evn i l).2 / 2 + 2 ^ q by omega, ih q (by omega) _ _ (by omega) (by omega)]
        rfl
      · rw [up_L (by omega) (by omega), up_L hl hR, show (i + 2 ^ (p' + 1)) / 2 = i / 2 + 2 ^ p' by omega, show (l + 2 ^ (p' + 1)) / 2 = l / 2 + 2 ^ p' by omega, ih p' (by omega) _ _ (by omega) (by omega)]
        rfl
theorem st_right : ∀ (p i l : Nat), i < l → l < 2 ^ p → up (st (i + 2 ^ p) (l + 2 ^ p)).1 (st (i + 2 ^ p) (l + 2 ^ p)).2 = up (st i l).1 (st i l).2 ++ [true] ∧ 0 < (st (i + 2 ^ p) (l + 2 ^ p)).1 := by
  intro p
  induction p with
  | zero => intro i l h1 h2; simp at h2; omega
  | succ p ih =>
    intro i l h1 h2
    have e : 2 ^ (p + 1) = 2 ^ p * 2 := Nat.pow_succ 2 p
    by_cases ho : i % 2 = 1
    · rw [st_odd (i := i + 2 ^ (p + 1)) (by omega), st_odd ho, show (i + 2 ^ (p + 1)) / 2 = i / 2 + 2 ^ p by omega, show (l + 2 ^ (p + 1)) / 2 = l / 2 + 2 ^ p by omega]
      exact ih _ _ (by omega) (by omega)
    · have hp : 0 < 2 ^ p := Nat.pow_pos (by decide)
      rw [st_even (i := i + 2 ^ (p + 1)) (by omega), st_even ho]
      exact ⟨up_right (p + 1) i l (by omega) h2, by dsimp only; omega⟩
/-- Halving leads the way that the splits lead. -/
theorem up_dirs : ∀ (N n m : Nat), n ≤ N → 1 ≤ m → m < n → up (st (m - 1) (n - 1)).1 (st (m - 1) (n - 1)).2 = dirs m n ∧ (0 < (st (m - 1) (n - 1)).1 ↔ true ∈ dirs m n) := by
  intro N
  induction N with
  | zero => intro n m h; omega
  | succ N ih =>
    intro n m h0 h1 h2
    have hs := split_spec (show 2 ≤ n by omega)
    obtain ⟨j, hj⟩ := split_pow (show 2 ≤ n by omega)
    by_cases hk : m ≤ split n
    · have hdiv : (n - 1) / 2 ^ j = 1 := by
        rw [← hj]
        exact Nat.div_eq_of_lt_le (by omega) (by omega)
      obtain ⟨h3, h4⟩ := st_left j (m - 1) (n - 1) (by omega) hdiv
      rw [h3, h4, dirs_left m n h1 h2 hk, ← hj]
      by_cases hm : m = split n
      · rw [hm, hj, st_pow, dirs_all]
        exact ⟨rfl, by simp⟩
      · obtain ⟨h5, h6⟩ := ih (split n) m (by omega) h1 (by omega)
        rw [h5, h6]
        exact ⟨rfl, by simp⟩
    · obtain ⟨h3, h4⟩ := st_right j (m - split n - 1) (n - split n - 1) (by omega) (by omega)
      rw [← hj, show m - split n - 1 + split n = m - 1 by omega, show n - split n - 1 + split n = n - 1 by omega] at h3 h4
      obtain ⟨h5, h6⟩ := ih (n - split n) (m - split n) (by omega) (by omega) (by omega)
      rw [h3, h5, dirs_right m n h2 hk]
      exact ⟨rfl, by simp [h4]⟩
end Go.Sx
