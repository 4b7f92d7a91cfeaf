/- Speculum proofs: proofs that one tree is another one's beginning, in plain words. No program in sight. -/
/- Speculum proofs: the way from a leaf to the root, by halving. No program in sight. -/
/- Speculum proofs: chunks put in order; boxes that are rows. -/
/- Speculum proofs: plain laws of the proofs that trees are beginnings: they are checked, they are short, one of another length is not checked. -/
/- Speculum proofs: bits of numbers, bytes of numbers, parts of structs, a hash stored among others. -/
import Derived.Test.YtjkfeonbioccmaaDoorMc
namespace Go.Sx
open Go Go.RowKit
set_option linter.unusedVariables false
set_option linter.unusedSimpArgs false

/-! ### the proof -/
def subF : Nat → List H → Nat → Bool → List H
  | 0, l, m, known => if m = l.length then (if known then [] else [root l]) else []
  | f + 1, l, m, known => if m = l.length then (if known then [] else [root l]) else
    if m ≤ split l.length then subF f (l.take (split l.length)) m known ++ [root (l.drop (split l.length))]
    else subF f (l.drop (split l.length)) (m - split l.length) false ++ [root (l.take (split l.length))]
def sub (l : List H) (m : Nat) (known : Bool) : List H := subF l.length l m known
theorem subF_eq : ∀ (f g : Nat) (l : List H) (m : Nat) (known : Bool), 1 ≤ m → m ≤ l.length → l.length ≤ f + 1 → l.length ≤ g + 1 → subF f l m known = subF g l m known := by
  intro f
  induction f with
  | zero =>
    intro g l m known h1 h2 hf hg
    have hm : m = l.length := by omega
    cases g <;> simp [subF, hm]
  | succ f ih =>
    intro g l m known h1 h2 hf hg
    by_cases hm : m = l.length
    · cases g <;> simp [subF, hm]
    · have hs := split_spec (show 2 ≤ l.length by omega)
      cases g with
      | zero => omega
      | succ g =>
        rw [subF, subF, if_neg hm, if_neg hm]
        by_cases hk : m ≤ split l.length
        · rw [if_pos hk, if_pos hk, ih g _ _ _ h1 (by rw [List.length_take]; omega) (by rw [List.length_take]; omega) (by rw [List.length_take]; omega)]
        · rw [if_neg hk, if_neg hk, ih g _ _ _ (by omega) (by rw [List.length_drop]; omega) (by rw [List.length_drop]; omega) (by rw [List.length_drop]; omega)]
theorem sub_all (l : List H) (m : Nat) (known : Bool) (h : m = l.length) : sub l m known = if known then [] else [root l] := by
  unfold sub
  cases l.length <;> simp [subF, h]
theorem sub_left (l : List H) (m : Nat) (known : Bool) (h1 : 1 ≤ m) (h2 : m < l.length) (h : m ≤ split l.length) : sub l m known = sub (l.take (split l.length)) m known ++ [root (l.drop (split l.length))] := by
  have hs := split_spec (show 2 ≤ l.length by omega)
  obtain ⟨f, hf⟩ : ∃ f, l.length = f + 1 := ⟨l.length - 1, by omega⟩
  unfold sub
  rw [hf, subF, if_neg (by omega), if_pos h, subF_eq f (l.take (split l.length)).length _ _ _ h1 (by rw [List.length_take]; omega) (by rw [List.length_take]; omega) (by omega), hf]
theorem sub_right (l : List H) (m : Nat) (known : Bool) (h2 : m < l.length) (h : ¬ m ≤ split l.length) : sub l m known = sub (l.drop (split l.length)) (m - split l.length) false ++ [root (l.take (split l.length))] := by
  have hs := split_spec (show 2 ≤ l.length by omega)
  obtain ⟨f, hf⟩ : ∃ f, l.length = f + 1 := ⟨l.length - 1, by omega⟩
  unfold sub
  rw [hf, subF, if_neg (by omega), if_neg h, subF_eq f (l.drop (split l.length)).length _ _ _ (by omega) (by rw [List.length_drop]; omega) (by rw [List.length_drop]; omega) (by omega), hf]

/-! ### the way from a leaf to the root: true where the sibling is to the left -/
def dirsF : Nat → Nat → Nat → List Bool
  | 0, _, _ => []
  | f + 1, m, n => if m = n then [] else if m ≤ split n then dirsF f m (split n) ++ [false] else dirsF f (m - split n) (n - split n) ++ [true]
def dirs (m n : Nat) : List Bool := dirsF n m n
theorem dirsF_eq : ∀ (f g m n : Nat), 1 ≤ m → m ≤ n → n ≤ f + 1 → n ≤ g + 1 → dirsF f m n = dirsF g m n := by
  intro f
  induction f with
  | zero =>
    intro g m n h1 h2 hf hg
    have hm : m = n := by omega
    cases g <;> simp [dirsF, hm]
  | succ f ih =>
    intro g m n h1 h2 hf hg
    by_cases hm : m = n
    · cases g <;> simp [dirsF, hm]
    · have hs := split_spec (show 2 ≤ n by omega)
      cases g with
      | zero => omega
      | succ g =>
        rw [dirsF, dirsF, if_neg hm, if_neg hm]
        by_cases hk : m ≤ split n
        · rw [if_pos hk, if_pos hk, ih g _ _ h1 hk (by omega) (by omega)]
        · rw [if_neg hk, if_neg hk, ih g _ _ (by omega) (by omega) (by omega) (by omega)]
theorem dirs_all (n : Nat) : dirs n n = [] := by
  unfold dirs
  cases n <;> simp [dirsF]
theorem dirs_left (m n : Nat) (h1 : 1 ≤ m) (h2 : m < n) (h : m ≤ split n) : dirs m n = dirs m (split n) ++ [false] := by
  have hs := split_spec (show 2 ≤ n by omega)
  obtain ⟨f, rfl⟩ : ∃ f, n = f + 1 := ⟨n - 1, by omega⟩
  unfold dirs
  rw [dirsF, if_neg (by omega), if_pos h, dirsF_eq f (split (f + 1)) _ _ h1 h (by omega) (by omega)]
theorem dirs_right (m n : Nat) (h2 : m < n) (h : ¬ m ≤ split n) : dirs m n = dirs (m - split n) (n - split n) ++ [true] := by
  have hs := split_spec (show 2 ≤ n by omega)
  obtain ⟨f, rfl⟩ : ∃ f, n = f + 1 := ⟨n - 1, by omega⟩
  unfold dirs
  rw [dirsF, if_neg (by omega), if_neg h, dirsF_eq f (f + 1 - split (f + 1)) _ _ (by omega) (by omega) (by omega) (by omega)]
theorem dirs_len : ∀ (t m n : Nat), 1 ≤ m → m ≤ n → n ≤ 2 ^ t → (dirs m n).length ≤ t := by
  intro t
  induction t with
  | zero =>
    intro m n h1 h2 h3
    have h4 : n ≤ 1 := by simpa using h3
    have : m = n := by omega
    rw [this, dirs_all]; exact Nat.zero_le _
  | succ t ih =>
    intro m n h1 h2 h3
    by_cases hm : m = n
    · rw [hm, dirs_all]; exact Nat.zero_le _
    · have hs := split_spec (show 2 ≤ n by omega)
      have hk : split n ≤ 2 ^ t := by
        obtain ⟨j, hj⟩ := split_pow (show 2 ≤ n by omega)
        rw [hj]
        have h5 : 2 ^ j < 2 ^ (t + 1) := by rw [← hj]; omega
        have h6 : j < t + 1 := (Nat.pow_lt_pow_iff_right (show 1 < 2 by decide)).1 h5
        exact Nat.pow_le_pow_right (by decide) (by omega)
      by_cases hk2 : m ≤ split n
      · rw [dirs_left m n h1 (by omega) hk2, List.length_append]
        have := ih m (split n) h1 hk2 hk
        simpa using this
      · rw [dirs_right m n (by omega) hk2, List.length_append]
        have := ih (m - split n) (n - split n) (by omega) (by omega) (by omega)
        simpa using this
/-- Each step takes a hash. -/
def run : List Bool → H → H → List H → Option (H × H)
  | [], a, b, [] => some (a, b)
  | [], _, _, _ :: _ => none
  | _ :: _, _, _, [] => none
  | true :: ds, a, b, h :: p => run ds (node h a) (node h b) p
  | false :: ds, a, b, h :: p => run ds a (node b h) p
/-- From the beginning: what is known needs no hash. -/
def start (ds : List Bool) (known : Bool) (older : H) (p : List H) : Option (H × H) :=
  if known = true ∧ true ∉ ds then run ds older older p else match p with
    | [] => none
    | h :: p => run ds h h p
def step1 (d : Bool) (h : H) (q : H × H) : H × H := if d then (node h q.1, node h q.2) else (q.1, node q.2 h)
theorem run_len : ∀ (ds : List Bool) (a b : H) (p : List H), p.length ≠ ds.length → run ds a b p = none := by
  intro ds
  induction ds with
  | nil => intro a b p h; cases p with
    | nil => simp at h
    | cons x p => rfl
  | cons d ds ih =>
    intro a b p h
    cases p with
    | nil => rfl
    | cons x p =>
      cases d
      · exact ih _ _ _ (by simpa using h)
      · exact ih _ _ _ (by simpa using h)
theorem run_snoc : ∀ (ds : List Bool) (d : Bool) (a b : H) (p : List H) (h : H), run (ds ++ [d]) a b (p ++ [h]) = (run ds a b p).map (step1 d h) := by
  intro ds
  induction ds with
  | nil =>
    intro d a b p h
    cases p with
    | nil => cases d <;> rfl
    | cons x p =>
      have : run ([] ++ [d]) a b (x :: p ++ [h]) = none := run_len _ _ _ _ (by simp)
      rw [this]; rfl
  | cons e ds ih =>
    intro d a b p h
    cases p with
    | nil =>
      have : run (e :: ds ++ [d]) a b ([] ++ [h]) = none := run_len _ _ _ _ (by simp)
      rw [this]; rfl
    | cons x p =>
      cases e
      · exact ih d _ _ p h
      · exact ih d _ _ p h
theorem start_len (ds : List Bool) (known : Bool) (older : H) (p : List H) (h : p.length ≠ ds.length + (if known = true ∧ true ∉ ds then 0 else 1)) : start ds known older p = none := by
  unfold start
  by_cases hk : known = true ∧ true ∉ ds
  · rw [if_pos hk] at h ⊢
    exact run_len _ _ _ _ (by simpa using h)
  · rw [if_neg hk] at h ⊢
    cases p with
    | nil => rfl
    | cons x p => exact run_len _ _ _ _ (by simpa using h)
/-- What a proof proves: the roots of the beginning and of all. -/
theorem start_sub : ∀ (N : Nat) (l : List H) (m : Nat) (known : Bool), l.length ≤ N → 1 ≤ m → m ≤ l.length → start (dirs m l.length) known (root (l.take m)) (sub l m known) = some (root (l.take m), root l) := by
  intro N
  induction N with
  | zero => intro l m known h0 h1 h2; omega
  | succ N ih =>
    intro l m known h0 h1 h2
    by_cases hm : m = l.length
    · have ht : l.take m = l := List.take_of_length_le (by omega)
      rw [ht, sub_all l m known hm, hm, dirs_all]
      cases known
      · rfl
      · rfl
    · have hs := split_spec (show 2 ≤ l.length by omega)
      by_cases hk : m ≤ split l.length
      · have hlt : (l.take (split l.length)).length = split l.length := by rw [List.length_take]; omega
        have hi := ih (l.take (split l.length)) m known (by omega) h1 (by omega)
        rw [hlt, List.take_take, Nat.min_eq_left hk] at hi
        rw [sub_left l m known h1 (by omega) hk, dirs_left m _ h1 (by omega) hk, root_two l (by omega)]
        have hmem : (true ∉ dirs m (split l.length) ++ [false]) ↔ true ∉ dirs m (split l.length) := by simp
        unfold start at hi ⊢
        by_cases hc : known = true ∧ true ∉ dirs m (split l.length)
        · rw [if_pos hc] at hi
          rw [if_pos ⟨hc.1, hmem.2 hc.2⟩, run_snoc, hi]; rfl
        · rw [if_neg hc] at hi
          rw [if_neg (fun hh => hc ⟨hh.1, hmem.1 hh.2⟩)]
          cases hsub : sub (l.take (split l.length)) m known with
          | nil => rw [hsub] at hi; cases hi
          | cons x p =>
            rw [hsub] at hi
            rw [List.cons_append]
            show run _ x x (p ++ [_]) = _
            rw [run_snoc]
            have hi' : run (dirs m (split l.length)) x x p = _ := hi
            rw [hi']; rfl
      · have hld : (l.drop (split l.length)).length = l.length - split l.length := by rw [List.length_drop]
        have hi := ih (l.drop (split l.length)) (m - split l.length) false (by omega) (by omega) (by omega)
        rw [hld] at hi
        rw [sub_right l m known (by omega) hk, dirs_right m _ (by omega) hk, root_two l (by omega)]
        have htk : l.take m = l.take (split l.length) ++ (l.drop (split l.length)).take (m - split l.length) := by
          rw [← List.take_add, show split l.length + (m - split l.length) = m by omega]
        have hsp : split m = split l.length := by
          obtain ⟨j, hj⟩ := split_pow (show 2 ≤ l.length by omega)
          exact (split_uniq ⟨j, hj⟩ (by omega) (by omega)).symm
        have hlm : (l.take m).length = m := by rw [List.length_take]; omega
        have hrt : root (l.take m) = node (root (l.take (split l.length))) (root ((l.drop (split l.length)).take (m - split l.length))) := by
          rw [root_two _ (by omega), hlm, hsp, List.take_take, Nat.min_eq_left (by omega), htk, List.drop_append, List.drop_of_length_le (by rw [List.length_take]; omega), List.length_take, Nat.min_eq_left (by omega), Nat.sub_self, List.drop_zero, List.nil_append]
        unfold start at hi ⊢
        rw [if_neg (by simp)] at hi
        rw [if_neg (by simp)]
        cases hsub : sub (l.drop (split l.length)) (m - split l.length) false with
        | nil => rw [hsub] at hi; cases hi
        | cons x p =>
          rw [hsub] at hi
          rw [List.cons_append]
          show run _ x x (p ++ [_]) = _
          rw [run_snoc]
          have hi' : run (dirs (m - split l.length) (l.length - split l.length)) x x p = _ := hi
          rw [hi', hrt]; rfl

/-! ### how the document puts it: from the root -/
def saysF : Nat → Nat → Nat → Bool → H → List H → H × H × Bool
  | 0, _, _, _, older, _ => (older, older, false)
  | f + 1, m, n, known, older, p =>
    if m = n then (if known then (older, older, decide (p.length = 0)) else if p.length ≠ 1 then (older, older, false) else (p.getD 0 H.zero, p.getD 0 H.zero, true))
    else if p.length = 0 then (older, older, false)
    else if m ≤ split n then
      ((saysF f m (split n) known older (p.take (p.length - 1))).1, node (saysF f m (split n) known older (p.take (p.length - 1))).2.1 (p.getD (p.length - 1) H.zero), (saysF f m (split n) known older (p.take (p.length - 1))).2.2)
    else
      (node (p.getD (p.length - 1) H.zero) (saysF f (m - split n) (n - split n) false older (p.take (p.length - 1))).1, node (p.getD (p.length - 1) H.zero) (saysF f (m - split n) (n - split n) false older (p.take (p.length - 1))).2.1, (saysF f (m - split n) (n - split n) false older (p.take (p.length - 1))).2.2)
theorem take_last (p : List H) (h : p.length ≠ 0) : p = p.take (p.length - 1) ++ [p.getD (p.length - 1) H.zero] := by
  have hlt : p.length - 1 < p.length := by omega
  have h1 : p.getD (p.length - 1) H.zero = p[p.length - 1] := by rw [List.getD_eq_getElem?_getD, List.getElem?_eq_getElem hlt]; rfl
  conv => lhs; rw [← List.take_append_drop (p.length - 1) p]
  rw [h1]
  congr 1
  rw [List.drop_eq_getElem_cons hlt, List.drop_of_length_le (by omega)]
theorem says_start : ∀ (f m n : Nat) (known : Bool) (older : H) (p : List H), 1 ≤ m → m ≤ n → n ≤ f → start (dirs m n) known older p = (if (saysF f m n known older p).2.2 = true then some ((saysF f m n known older p).1, (saysF f m n known older p).2.1) else none) := by
  intro f
  induction f with
  | zero => intro m n known older p h1 h2 h3; omega
  | succ f ih =>
    intro m n known older p h1 h2 h3
    by_cases hm : m = n
    · rw [hm, dirs_all, saysF, if_pos rfl]
      cases known with
      | true =>
        simp only [if_true]
        by_cases hp : p.length = 0
        · have : p = [] := List.eq_nil_of_length_eq_zero hp
          subst this; rfl
        · simp only [hp, decide_false, Bool.false_eq_true, if_false]
          exact start_len _ _ _ _ (by simpa using hp)
      | false =>
        simp only [Bool.false_eq_true, if_false]
        by_cases hp : p.length ≠ 1
        · rw [if_pos hp]
          exact start_len _ _ _ _ (by simpa using hp)
        · rw [if_neg hp]
          match p, hp with
          | [x], _ => rfl
          | [], hp => simp at hp
          | x :: y :: r, hp => simp at hp
    · have hs := split_spec (show 2 ≤ n by omega)
      rw [saysF, if_neg hm]
      by_cases hp : p.length = 0
      · rw [if_pos hp]
        have : p = [] := List.eq_nil_of_length_eq_zero hp
        subst this
        rw [if_neg (by simp)]
        unfold start
        split
        · apply run_len
          by_cases hk : m ≤ split n
          · rw [dirs_left m n h1 (by omega) hk]; simp
          · rw [dirs_right m n (by omega) hk]; simp
        · rfl
      · rw [if_neg hp]
        have hpl := take_last p hp
        by_cases hk : m ≤ split n
        · have hi := ih m (split n) known older (p.take (p.length - 1)) h1 hk (by omega)
          rw [if_pos hk]
          generalize hq : saysF f m (split n) known older (p.take (p.length - 1)) = q at hi ⊢
          obtain ⟨qa, qb, qo⟩ := q
          dsimp only at hi ⊢
          generalize p.getD (p.length - 1) H.zero = z at hpl ⊢
          generalize p.take (p.length - 1) = r at hpl hi hq
          subst hpl
          rw [dirs_left m n h1 (by omega) hk]
          have hmem : (true ∉ dirs m (split n) ++ [false]) ↔ true ∉ dirs m (split n) := by simp
          unfold start at hi ⊢
          by_cases hc : known = true ∧ true ∉ dirs m (split n)
          · rw [if_pos hc] at hi
            rw [if_pos ⟨hc.1, hmem.2 hc.2⟩, run_snoc, hi]
            cases qo <;> rfl
          · rw [if_neg hc] at hi
            rw [if_neg (fun hh => hc ⟨hh.1, hmem.1 hh.2⟩)]
            cases r with
            | nil =>
              have hrun : run (dirs m (split n) ++ [false]) z z [] = none := run_len _ _ _ _ (by simp)
              show run _ z z [] = _
              rw [hrun]
              have hi' : none = _ := hi
              cases qo
              · rfl
              · cases hi'
            | cons x r =>
              rw [List.cons_append]
              show run _ x x (r ++ [z]) = _
              rw [run_snoc]
              have hi' : run (dirs m (split n)) x x r = _ := hi
              rw [hi']
              cases qo <;> rfl
        · have hi := ih (m - split n) (n - split n) false older (p.take (p.length - 1)) (by omega) (by omega) (by omega)
          rw [if_neg hk]
          generalize hq : saysF f (m - split n) (n - split n) false older (p.take (p.length - 1)) = q at hi ⊢
          obtain ⟨qa, qb, qo⟩ := q
          dsimp only at hi ⊢
          generalize p.getD (p.length - 1) H.zero = z at hpl ⊢
          generalize p.take (p.length - 1) = r at hpl hi hq
          subst hpl
          rw [dirs_right m n (by omega) hk]
          unfold start at hi ⊢
          rw [if_neg (by simp)] at hi
          rw [if_neg (by simp)]
          cases r with
          | nil =>
            have hrun : run (dirs (m - split n) (n - split n) ++ [true]) z z [] = none := run_len _ _ _ _ (by simp)
            show run _ z z [] = _
            rw [hrun]
            have hi' : none = _ := hi
            cases qo
            · rfl
            · cases hi'
          | cons x r =>
            rw [List.cons_append]
            show run _ x x (r ++ [z]) = _
            rw [run_snoc]
            have hi' : run (dirs (m - split n) (n - split n)) x x r = _ := hi
            rw [hi']
            cases qo <;> rfl
end Go.Sx
namespace Go.Sx
open Go Go.RowKit
set_option linter.unusedVariables false
set_option linter.unusedSimpArgs false

def stF : Nat → Nat → Nat → Nat × Nat
  | 0, i, l => (i, l)
  | f + 1, i, l => if i % 2 = 1 then stF f (i / 2) (l / 2) else (i, l)
/-- Odd ones are halved. -/
def st (i l : Nat) : Nat × Nat := stF (i + 1) i l
theorem stF_eq : ∀ (f g i l : Nat), i < f → i < g → stF f i l = stF g i l := by
  intro f
  induction f with
  | zero => intro g i l h; omega
  | succ f ih =>
    intro g i l h1 h2
    cases g with
    | zero => omega
    | succ g =>
      rw [stF, stF]
      by_cases h : i % 2 = 1
      · rw [if_pos h, if_pos h, ih g _ _ (by omega) (by omega)]
      · rw [if_neg h, if_neg h]
theorem st_odd {i l : Nat} (h : i % 2 = 1) : st i l = st (i / 2) (l / 2) := by
  unfold st
  rw [stF, if_pos h, stF_eq i (i / 2 + 1) _ _ (by omega) (by omega)]
theorem st_even {i l : Nat} (h : ¬ i % 2 = 1) : st i l = (i, l) := by
  unfold st
  rw [stF, if_neg h]
def evF : Nat → Nat → Nat → Nat × Nat
  | 0, i, l => (i, l)
  | f + 1, i, l => if i % 2 = 0 ∧ 0 < i then evF f (i / 2) (l / 2) else (i, l)
/-- Even ones are halved. -/
def evn (i l : Nat) : Nat × Nat := evF (i + 1) i l
theorem evF_eq : ∀ (f g i l : Nat), i < f → i < g → evF f i l = evF g i l := by
  intro f
  induction f with
  | zero => intro g i l h; omega
  | succ f ih =>
    intro g i l h1 h2
    cases g with
    | zero => omega
    | succ g =>
      rw [evF, evF]
      by_cases h : i % 2 = 0 ∧ 0 < i
      · rw [if_pos h, if_pos h, ih g _ _ (by omega) (by omega)]
      · rw [if_neg h, if_neg h]
theorem evn_even {i l : Nat} (h : i % 2 = 0 ∧ 0 < i) : evn i l = evn (i / 2) (l / 2) := by
  unfold evn
  rw [evF, if_pos h, evF_eq i (i / 2 + 1) _ _ (by omega) (by omega)]
theorem evn_stop {i l : Nat} (h : ¬ (i % 2 = 0 ∧ 0 < i)) : evn i l = (i, l) := by
  unfold evn
  rw [evF, if_neg h]
theorem evn_le : ∀ (m i l : Nat), i ≤ m → (evn i l).2 ≤ l := by
  intro m
  induction m with
  | zero => intro i l h; rw [evn_stop (by omega)]; exact Nat.le_refl _
  | succ m ih =>
    intro i l h
    by_cases h2 : i % 2 = 0 ∧ 0 < i
    · rw [evn_even h2]
      have := ih (i / 2) (l / 2) (by omega)
      omega
    · rw [evn_stop h2]; exact Nat.le_refl _
def upF : Nat → Nat → Nat → List Bool
  | 0, _, _ => []
  | f + 1, i, l => if l = 0 then [] else if i % 2 = 1 ∨ i = l then true :: upF f ((evn i l).1 / 2) ((evn i l).2 / 2) else false :: upF f (i / 2) (l / 2)
/-- The way up. -/
def up (i l : Nat) : List Bool := upF l i l
theorem upF_eq : ∀ (f g i l : Nat), l ≤ f → l ≤ g → upF f i l = upF g i l := by
  intro f
  induction f with
  | zero =>
    intro g i l h1 h2
    have : l = 0 := by omega
    subst this
    cases g <;> simp [upF]
  | succ f ih =>
    intro g i l h1 h2
    by_cases hl : l = 0
    · subst hl
      cases g <;> simp [upF]
    · cases g with
      | zero => omega
      | succ g =>
        have := evn_le i i l (Nat.le_refl _)
        rw [upF, upF, if_neg hl, if_neg hl, ih g ((evn i l).1 / 2) ((evn i l).2 / 2) (by omega) (by omega), ih g (i / 2) (l / 2) (by omega) (by omega)]
theorem up_zero (i : Nat) : up i 0 = [] := rfl
theorem up_R {i l : Nat} (hl : l ≠ 0) (h : i % 2 = 1 ∨ i = l) : up i l = true :: up ((evn i l).1 / 2) ((evn i l).2 / 2) := by
  obtain ⟨f, rfl⟩ : ∃ f, l = f + 1 := ⟨l - 1, by omega⟩
  have := evn_le i i (f + 1) (Nat.le_refl _)
  unfold up
  rw [upF, if_neg hl, if_pos h, upF_eq f ((evn i (f + 1)).2 / 2) _ _ (by omega) (Nat.le_refl _)]
theorem up_L {i l : Nat} (hl : l ≠ 0) (h : ¬ (i % 2 = 1 ∨ i = l)) : up i l = false :: up (i / 2) (l / 2) := by
  obtain ⟨f, rfl⟩ : ∃ f, l = f + 1 := ⟨l - 1, by omega⟩
  unfold up
  rw [upF, if_neg hl, if_neg h, upF_eq f ((f + 1) / 2) _ _ (by omega) (Nat.le_refl _)]
theorem div_one {l2 P : Nat} (h : l2 / (P * 2) = 1) : l2 / 2 / P = 1 := by rw [Nat.div_div_eq_div_mul, Nat.mul_comm 2 P]; exact h
theorem ge_of_div {l2 P : Nat} (hP : 0 < P) (h : l2 / P = 1) : P ≤ l2 := by
  rcases Nat.lt_or_ge l2 P with h' | h'
  · rw [Nat.div_eq_of_lt h'] at h; omega
  · exact h'
theorem up_left : ∀ (p i l2 : Nat), i < 2 ^ p → l2 / 2 ^ p = 1 → up i l2 = up i (2 ^ p - 1) ++ [false] := by
  intro p
  induction p with
  | zero =>
    intro i l2 hi h
    have h1 : i = 0 := by simpa using hi
    have h2 : l2 = 1 := by simpa using h
    subst h1; subst h2; rfl
  | succ p ih =>
    intro i l2 hi h
    have hp : 0 < 2 ^ p := Nat.pow_pos (by decide)
    have hge := ge_of_div (Nat.pow_pos (by decide)) h
    rw [Nat.pow_succ] at hi h hge ⊢
    have hhalf : (2 ^ p * 2 - 1) / 2 = 2 ^ p - 1 := by omega
    by_cases ho : i % 2 = 1
    · rw [up_R (by omega) (.inl ho), up_R (by omega) (.inl ho), evn_stop (by omega), evn_stop (by omega)]
      dsimp only
      rw [hhalf, ih (i / 2) (l2 / 2) (by omega) (div_one h)]; rfl
    · rw [up_L (i := i) (l := l2) (by omega) (by omega), up_L (i := i) (l := 2 ^ p * 2 - 1) (by omega) (by omega), hhalf, ih (i / 2) (l2 / 2) (by omega) (div_one h)]; rfl
theorem st_left : ∀ (p i l2 : Nat), i < 2 ^ p → l2 / 2 ^ p = 1 → up (st i l2).1 (st i l2).2 = up (st i (2 ^ p - 1)).1 (st i (2 ^ p - 1)).2 ++ [false] ∧ (st i l2).1 = (st i (2 ^ p - 1)).1 := by
  intro p
  induction p with
  | zero =>
    intro i l2 hi h
    have h1 : i = 0 := by simpa using hi
    have h2 : l2 = 1 := by simpa using h
    subst h1; subst h2; exact ⟨rfl, rfl⟩
  | succ p ih =>
    intro i l2 hi h
    by_cases ho : i % 2 = 1
    · rw [Nat.pow_succ] at hi h ⊢
      have hp : 0 < 2 ^ p := Nat.pow_pos (by decide)
      rw [st_odd ho, st_odd ho, show (2 ^ p * 2 - 1) / 2 = 2 ^ p - 1 by omega]
      exact ih (i / 2) (l2 / 2) (by omega) (div_one h)
    · rw [st_even ho, st_even ho]
      exact ⟨up_left (p + 1) i l2 hi h, rfl⟩
theorem st_pow : ∀ j, st (2 ^ j - 1) (2 ^ j - 1) = (0, 0) := by
  intro j
  induction j with
  | zero => rfl
  | succ j ih =>
    have hp : 0 < 2 ^ j := Nat.pow_pos (by decide)
    rw [Nat.pow_succ, st_odd (by omega), show (2 ^ j * 2 - 1) / 2 = 2 ^ j - 1 by omega, ih]
theorem evn_pow : ∀ p, evn (2 ^ p) (2 ^ p) = (1, 1) := by
  intro p
  induction p with
  | zero => rfl
  | succ p ih =>
    have hp : 0 < 2 ^ p := Nat.pow_pos (by decide)
    rw [Nat.pow_succ, evn_even (by omega), show 2 ^ p * 2 / 2 = 2 ^ p by omega, ih]
theorem evn_add : ∀ (p i l : Nat), 0 < i → i < 2 ^ p → i ≤ l → l < 2 ^ p → ∃ q, q + 1 ≤ p ∧ evn (i + 2 ^ p) (l + 2 ^ p) = ((evn i l).1 + 2 ^ (q + 1), (evn i l).2 + 2 ^ (q + 1)) ∧ (evn i l).1 ≤ (evn i l).2 ∧ (evn i l).2 < 2 ^ (q + 1) := by
  intro p
  induction p with
  | zero => intro i l h0 h1; simp at h1; omega
  | succ p ih =>
    intro i l h0 h1 h2 h3
    by_cases he : i % 2 = 0
    · have e : 2 ^ (p + 1) = 2 ^ p * 2 := Nat.pow_succ 2 p
      rw [e] at h1 h3 ⊢
      rw [evn_even (i := i + 2 ^ p * 2) (by omega), evn_even (i := i) (by omega), show (i + 2 ^ p * 2) / 2 = i / 2 + 2 ^ p by omega, show (l + 2 ^ p * 2) / 2 = l / 2 + 2 ^ p by omega]
      obtain ⟨q, hq, r⟩ := ih (i / 2) (l / 2) (by omega) (by omega) (by omega) (by omega)
      exact ⟨q, by omega, r⟩
    · refine ⟨p, Nat.le_refl _, ?_⟩
      have e : 2 ^ (p + 1) = 2 ^ p * 2 := Nat.pow_succ 2 p
      rw [evn_stop (i := i) (by omega), evn_stop (i := i + 2 ^ (p + 1)) (by omega)]
      exact ⟨rfl, h2, h3⟩
theorem up_right : ∀ (p i l : Nat), i ≤ l → l < 2 ^ p → up (i + 2 ^ p) (l + 2 ^ p) = up i l ++ [true] := by
  intro p
  induction p using Nat.strongRecOn with
  | _ p ih =>
    intro i l h1 h2
    have hp : 0 < 2 ^ p := Nat.pow_pos (by decide)
    by_cases hl : l = 0
    · have hi : i = 0 := by omega
      subst hl; subst hi
      rw [Nat.zero_add, up_R (by omega) (.inr rfl), evn_pow]; rfl
    · obtain ⟨p', rfl⟩ : ∃ q, p = q + 1 := by
        cases p with
        | zero => simp at h2; omega
        | succ q => exact ⟨q, rfl⟩
      have e : 2 ^ (p' + 1) = 2 ^ p' * 2 := Nat.pow_succ 2 p'
      by_cases hR : i % 2 = 1 ∨ i = l
      · obtain ⟨q, hq, h3, h4, h5⟩ := evn_add (p' + 1) i l (by omega) (by omega) h1 h2
        have e2 : 2 ^ (q + 1) = 2 ^ q * 2 := Nat.pow_succ 2 q
        rw [up_R (by omega) (by omega), up_R hl hR, h3]
        dsimp only
        rw [show ((evn i l).1 + 2 ^ (q + 1)) / 2 = (evn i l).1 / 2 + 2 ^ q by omega, show ((evn i l).2 + 2 ^ (q + 1)) / 2 = (evn i l).2 / 2 + 2 ^ q by omega, ih q (by omega) _ _ (by omega) (by omega)]
        rfl
      · rw [up_L (by omega) (by omega), up_L hl hR, show (i + 2 ^ (p' + 1)) / 2 = i / 2 + 2 ^ p' by omega, show (l + 2 ^ (p' + 1)) / 2 = l / 2 + 2 ^ p' by omega, ih p' (by omega) _ _ (by omega) (by omega)]
        rfl
theorem st_right : ∀ (p i l : Nat), i < l → l < 2 ^ p → up (st (i + 2 ^ p) (l + 2 ^ p)).1 (st (i + 2 ^ p) (l + 2 ^ p)).2 = up (st i l).1 (st i l).2 ++ [true] ∧ 0 < (st (i + 2 ^ p) (l + 2 ^ p)).1 := by
  intro p
  induction p with
  | zero => intro i l h1 h2; simp at h2; omega
  | succ p ih =>
    intro i l h1 h2
    have e : 2 ^ (p + 1) = 2 ^ p * 2 := Nat.pow_succ 2 p
    by_cases ho : i % 2 = 1
    · rw [st_odd (i := i + 2 ^ (p + 1)) (by omega), st_odd ho, show (i + 2 ^ (p + 1)) / 2 = i / 2 + 2 ^ p by omega, show (l + 2 ^ (p + 1)) / 2 = l / 2 + 2 ^ p by omega]
      exact ih _ _ (by omega) (by omega)
    · have hp : 0 < 2 ^ p := Nat.pow_pos (by decide)
      rw [st_even (i := i + 2 ^ (p + 1)) (by omega), st_even ho]
      exact ⟨up_right (p + 1) i l (by omega) h2, by dsimp only; omega⟩
/-- Halving leads the way that the splits lead. -/
theorem up_dirs : ∀ (N n m : Nat), n ≤ N → 1 ≤ m → m < n → up (st (m - 1) (n - 1)).1 (st (m - 1) (n - 1)).2 = dirs m n ∧ (0 < (st (m - 1) (n - 1)).1 ↔ true ∈ dirs m n) := by
  intro N
  induction N with
  | zero => intro n m h; omega
  | succ N ih =>
    intro n m h0 h1 h2
    have hs := split_spec (show 2 ≤ n by omega)
    obtain ⟨j, hj⟩ := split_pow (show 2 ≤ n by omega)
    by_cases hk : m ≤ split n
    · have hdiv : (n - 1) / 2 ^ j = 1 := by
        rw [← hj]
        exact Nat.div_eq_of_lt_le (by omega) (by omega)
      obtain ⟨h3, h4⟩ := st_left j (m - 1) (n - 1) (by omega) hdiv
      rw [h3, h4, dirs_left m n h1 h2 hk, ← hj]
      by_cases hm : m = split n
      · rw [hm, hj, st_pow, dirs_all]
        exact ⟨rfl, by simp⟩
      · obtain ⟨h5, h6⟩ := ih (split n) m (by omega) h1 (by omega)
        rw [h5, h6]
        exact ⟨rfl, by simp⟩
    · obtain ⟨h3, h4⟩ := st_right j (m - split n - 1) (n - split n - 1) (by omega) (by omega)
      rw [← hj, show m - split n - 1 + split n = m - 1 by omega, show n - split n - 1 + split n = n - 1 by omega] at h3 h4
      obtain ⟨h5, h6⟩ := ih (n - split n) (m - split n) (by omega) (by omega) (by omega)
      rw [h3, h5, dirs_right m n h2 hk]
      exact ⟨rfl, by simp [h4]⟩
end Go.Sx
namespace Go.Sx
open Go Go.RowKit
set_option linter.unusedVariables false
set_option linter.unusedSimpArgs false
section
variable {c : Cx} {ops : Array Oper} {Q : Exit → Act → World → Prop} {tm tm' : Env} {C C' : List Chunk} {F F' : World → Prop} {l : List Oper} {o : Oper} {v v' vx vy : Value} {x y z : Operand} {t t' e : TypeId} {d : Nat} {w : World}
theorem St.recast (h : St c w C F) {i : Nat} {x y : Chunk} (hi : C[i]? = some x) (ho : y.own = x.own) (hs : x.sat w → y.sat w) : St c w (C.set i y) F :=
  h.upd hi (Fr.refl _ _) (hs (h.get hi)) (fun k hk => .inl (ho ▸ hk))
theorem row_of_box {g n sz : Nat} {cs : List Value} (hl : cs.length = n * sz) (hn : n ≤ maxLen) (h : (Chunk.box g e cs).sat w) : (Chunk.row (.slice (some ⟨g, 0, none⟩) n n) e sz n cs).sat w := by
  have hh : w.heap[g]? = some (.cells cs.toArray e (0, 0)) := h
  exact ⟨hl, .inr ⟨g, n, cs.toArray, rfl, Nat.zero_le _, hh, Nat.le_refl _, hn, by simpa using hl, by simp [← hl]⟩⟩
theorem St.boxrow (h : St c w C F) (i : Nat) {g n sz : Nat} {cs : List Value} (hi : C[i]? = some (.box g e cs)) (hl : cs.length = n * sz) (hn : n ≤ 4000000000000) : St c w (C.set i (.row (.slice (some ⟨g, 0, none⟩) n n) e sz n cs)) F :=
  h.recast hi rfl (row_of_box hl (by unfold maxLen; omega))
theorem perm_front : ∀ (C : List Chunk) (i : Nat) (x : Chunk), C[i]? = some x → (x :: C.eraseIdx i).Perm C := by
  intro C
  induction C with
  | nil => intro i x h; cases h
  | cons y r ih =>
    intro i x h
    cases i with
    | zero =>
      simp only [List.getElem?_cons_zero, Option.some.injEq] at h
      subst h
      exact List.Perm.refl _
    | succ i =>
      simp only [List.getElem?_cons_succ] at h
      exact (List.Perm.swap y x _).trans ((ih i x h).cons y)
theorem St.front (h : St c w C F) (i : Nat) {x : Chunk} (hi : C[i]? = some x) : St c w (x :: C.eraseIdx i) F := by
  exact h.perm (perm_front C i x hi)
theorem J.front (i : Nat) {x : Chunk} (hi : C[i]? = some x) (h : J c ops Q l tm (x :: C.eraseIdx i) F) : J c ops Q l tm C F := J.st h fun w hs => hs.front i hi
theorem JC.front {y : Code} (i : Nat) {x : Chunk} (hi : C[i]? = some x) (h : JC c y Q tm (x :: C.eraseIdx i) F) : JC c y Q tm C F := JC.st h fun w hs => hs.front i hi
theorem JQ.front {e : Exit} (i : Nat) {x : Chunk} (hi : C[i]? = some x) (h : JQ c Q e tm (x :: C.eraseIdx i) F) : JQ c Q e tm C F := JQ.st h fun w hs => hs.front i hi
/-- []T{x, y, ..} -/
theorem fill_each {α : Type} {sz : Nat} (fv : α → Value) (fc : α → List Value) (hv : ∀ x, (fv x).cells = (fc x).toArray) (hl : ∀ x, (fc x).length = sz) : ∀ (xs : List α) (k : Nat) (pre post : List Value), post.length = xs.length * sz → pre.length = k * sz →
    Instr.fill (fun i => some (i * sz, sz)) (pre ++ post).toArray (((xs.map fv).zipIdx k).map fun p => (p.2, p.1)) = some (pre ++ xs.flatMap fc).toArray := by
  intro xs
  induction xs with
  | nil =>
    intro k pre post hp _
    have : post = [] := List.eq_nil_of_length_eq_zero (by simpa using hp)
    subst this
    simp [Instr.fill]
  | cons x r ih =>
    intro k pre post hp hk
    rw [List.length_cons, Nat.succ_mul] at hp
    rw [List.map_cons, List.zipIdx_cons, List.map_cons]
    rw [fill_one (vs := fc x) (off := k * sz) (by simp [hl]) (hv x) (by simp [hl]; omega)]
    have hs : spl (pre ++ post) (k * sz) (fc x) = (pre ++ fc x) ++ post.drop sz := by
      simp only [spl, hl]
      rw [List.take_append_of_le_length (by omega), List.take_of_length_le (by omega), List.drop_append, List.drop_of_length_le (by omega), hk, show k * sz + sz - k * sz = sz by omega]
      simp
    rw [hs, ih (k + 1) (pre ++ fc x) (post.drop sz) (by rw [List.length_drop]; omega) (by rw [List.length_append, hl, hk, Nat.succ_mul])]
    simp
theorem J.bsN {α : Type} {n sz : Nat} {zv : Value} {cs : List Value} {parts : Array (Nat × Operand)} (xs : List α) (fv : α → Value) (fc : α → List Value) (hfv : ∀ x, (fv x).cells = (fc x).toArray) (hfl : ∀ x, (fc x).length = sz) (ho : o.op = .buildSlice t n parts) (hg : o.guard = none) (hd : o.dst = some d) (hn : Nat.ble (d + 1) c.n = true)
    (hp : evp tm parts.toList = some (((xs.map fv).zipIdx 0).map fun p => (p.2, p.1))) (hxs : xs.length = n) (ht : c.P.underlying t = some (.slice e)) (hz : zO c.P e = some zv) (hs : szO c.P e = some sz) (h0 : (Nat.ble 1 sz && Nat.ble 1 n && Nat.ble (n * sz) 10000) = true) (he : xs.flatMap fc = cs)
    (h : ∀ g, J c ops Q l ((d, .slice (some ⟨g, 0, none⟩) n n) :: tm) (.row (.slice (some ⟨g, 0, none⟩) n n) e sz n cs :: C) F) : J c ops Q (o :: l) tm C F := by
  rw [Bool.and_eq_true, Bool.and_eq_true] at h0
  have h0 := And.intro (Nat.le_of_ble_eq_true h0.1.1) (And.intro (Nat.le_of_ble_eq_true h0.1.2) (Nat.le_of_ble_eq_true h0.2))
  subst he
  have hlen : (xs.flatMap fc).length = n * sz := by
    rw [List.length_flatMap, ← hxs]
    clear hp hxs h h0
    induction xs with
    | nil => simp
    | cons x r ih => simp [hfl, Nat.succ_mul] at ih ⊢; omega
  refine J.ef (S' := True) hg hd hn fun ac w hag hst => ⟨.slice (some ⟨w.heap.size, 0, none⟩) n n, w.alloc (.cells (xs.flatMap fc).toArray e), ?_,
    _, _, hst.push (Fr.alloc _ _ _) (row_of_box hlen (by unfold maxLen; have : n * 1 ≤ n * sz := Nat.mul_le_mul_left _ h0.1; omega) (box_new w e _)) (fun k hk => by simp only [Chunk.own, Value.ownBlock, Option.some.injEq] at hk; omega), h _⟩
  have hpa := hag.evp hp
  have hfill := fill_each (sz := sz) fv fc hfv hfl xs 0 [] ((Array.range (n * sz)).map (zv.cells[· % zv.cells.size]!)).toList (by simp [hxs]) (by simp)
  simp only [List.nil_append, Array.toArray_toList] at hfill
  have hsz1 : ¬ (n * sz > 2 ^ 24) := by omega
  have hsz2 : ¬ (n * sz = 0) := by
    have := Nat.mul_pos h0.2.1 h0.1
    omega
  have hparts : (parts.map fun (i, x) => (i, ac.eval x)).toList = ((xs.map fv).zipIdx 0).map fun p => (p.2, p.1) := by
    rw [Array.toList_map]; exact hpa
  simp only [execOp, ho, Instr.buildSlice, Sem.run_bind, run_underlying ht, Result.andThen_ok, run_szO hs]
  rw [if_neg hsz1, if_neg hsz2]
  simp only [Sem.run_bind, Sem.run_pure, run_zO hz, Result.andThen_ok, hparts, hfill]
  rfl
theorem hv_cells (x : H) : (hv x).cells = (hc x).toArray := rfl
/-- append([]T(nil), s...) -/
theorem J.appNil {m kc sz by' : Nat} {B : Option Addr} {zv : Value} (news : List Value) (ho : o.op = .call { callee := .builtin .append, args := #[x, y], argTypes := #[t, t] }) (hg : o.guard = none) (hd : o.dst = some d) (hn : Nat.ble (d + 1) c.n = true)
    (hx : ev tm x = some (.slice none 0 0)) (hy : ev tm y = some (.slice B m kc)) (ht : c.P.underlying t = some (.slice e)) (hz : zO c.P e = some zv) (hs : szO c.P e = some sz) (hb : byO c.P e = some by') (hzs : zv.cells.size = sz) (h0 : 0 < sz)
    (hl : news.length = m * sz) (hsl : ∀ w, St c w C F → Sl w B news) (h1 : ∀ u ∈ news, u.oneCell' = true) (hm : m ≤ 4000000000000) (hby : by' ≤ 35)
    (h : ∀ A k, m ≤ k → J c ops Q l ((d, .slice A m k) :: tm) (.row (.slice A m k) e sz m news :: C) F) : J c ops Q (o :: l) tm C F := by
  refine J.st ?_ (fun w hs => hs.nilrow e sz)
  exact J.append 0 ho hg hd hn hx hy ht hz hs hb hzs h0 rfl hl (fun w hs => hsl w (hs.forget (List.sublist_cons_self _ _))) h1 (by omega) hby (by omega) (List.nil_append _) fun A k _ hk => h A k hk
theorem D.front {ops : Array Oper} {Cs : List Chunk} {Fs : World → Prop} {fuel : Nat} {listed : Array Bool} (i : Nat) {x : Chunk} (hi : C[i]? = some x) (h : D c ops Q Cs Fs fuel listed tm (x :: C.eraseIdx i) F) : D c ops Q Cs Fs fuel listed tm C F := D.weakF h fun w hs => hs.front i hi
theorem JQ.keepn {e : Exit} (n : Nat) (h : JQ c Q e tm (C.take n) F) : JQ c Q e tm C F := JQ.st h fun w hs => hs.forget (List.take_sublist n C)
theorem ckrow {C : List Chunk} {F : World → Prop} {w : World} {A : Option Addr} {n k sz : Nat} {e : TypeId} {xs : List Value} (i : Nat) (hk : C[i]? = some (.row (.slice A n k) e sz n xs)) (h : F w ∧ ∀ x ∈ C, x.sat w) : Sl w A xs := Sl.of_row (e := e) (sz := sz) (n := n) (k := k) (ck i hk h)
theorem strow {c : Cx} {C : List Chunk} {F : World → Prop} {w : World} {A : Option Addr} {n k sz : Nat} {e : TypeId} {xs : List Value} (h : St c w C F) (i : Nat) (hk : C[i]? = some (.row (.slice A n k) e sz n xs)) : Sl w A xs := Sl.of_row (e := e) (sz := sz) (n := n) (k := k) (h.get hk)
theorem sub_len : ∀ (N : Nat) (l : List H) (m : Nat) (known : Bool), l.length ≤ N → 1 ≤ m → m ≤ l.length → (sub l m known).length ≤ l.length := by
  intro N
  induction N with
  | zero => intro l m known h0 h1 h2; omega
  | succ N ih =>
    intro l m known h0 h1 h2
    by_cases hm : m = l.length
    · rw [sub_all l m known hm]
      cases known
      · simp; omega
      · simp
    · have hs := split_spec (show 2 ≤ l.length by omega)
      by_cases hk : m ≤ split l.length
      · have := ih (l.take (split l.length)) m known (by rw [List.length_take]; omega) h1 (by rw [List.length_take]; omega)
        rw [List.length_take] at this
        rw [sub_left l m known h1 (by omega) hk, List.length_append]
        simp only [List.length_cons, List.length_nil]
        omega
      · have := ih (l.drop (split l.length)) (m - split l.length) false (by rw [List.length_drop]; omega) (by omega) (by rw [List.length_drop]; omega)
        rw [List.length_drop] at this
        rw [sub_right l m known (by omega) hk, List.length_append]
        simp only [List.length_cons, List.length_nil]
        omega
theorem start_known {ds : List Bool} {older : H} {p : List H} (h : true ∉ ds) : start ds true older p = run ds older older p := if_pos ⟨rfl, h⟩
theorem start_nil {ds : List Bool} {older : H} (h : true ∈ ds) : start ds true older [] = none := by
  unfold start; rw [if_neg (by simp [h])]
theorem start_cons {ds : List Bool} {older x : H} {r : List H} (h : true ∈ ds) : start ds true older (x :: r) = run ds x x r := by
  unfold start; rw [if_neg (by simp [h])]
/-- The verdict on a proof. -/
def verdict (ds : List Bool) (older newer : H) (p : List H) : Bool := match start ds true older p with
  | some (a, b) => decide (a = older) && decide (b = newer)
  | none => false
theorem run_nil {i la : Nat} {a b : H} (h : la ≠ 0) : run (up i la) a b [] = none := by
  by_cases hR : i % 2 = 1 ∨ i = la
  · rw [up_R h hR]; rfl
  · rw [up_L h hR]; rfl
theorem verdict_end {ds : List Bool} {older newer a b : H} {p q : List H} {i la : Nat} (h : run (up i la) a b q = start ds true older p) (hl : la = 0) : verdict ds older newer p = (decide (q.length = 0) && (decide (a = older) && decide (b = newer))) := by
  subst hl
  unfold verdict
  rw [← h, up_zero]
  cases q with
  | nil => simp [run]
  | cons x r => simp [run]
def chkOk (m n : Nat) (older newer : H) (p : List H) : Bool :=
  if m = 0 then decide (p.length = 0) && (decide (older = sha []) && (decide (0 < n) || decide (newer = older)))
  else if m = n then decide (p.length = 0) && decide (older = newer)
  else verdict (dirs m n) older newer p
def chk (m n : Int) (older newer : H) (p : List H) : Int :=
  if n < 0 ∨ 4096 < n ∨ m < 0 ∨ n < m then 2 else if chkOk m.toNat n.toNat older newer p = true then 0 else 80
/-- The proof, and whether it is refused. -/
def prf (l : List H) (m : Int) : List H := if m ≤ 0 ∨ (l.length : Int) < m then [] else sub l m.toNat true
def prfE (l : List H) (m : Int) : Int := if m < 0 ∨ (l.length : Int) < m then 2 else 0
/-- A guard that never came to a value. -/
theorem wanted_undef {ops : Array Oper} {n i g : Nat} {b : Bool} {og : Oper} {a : Act} (ha : Ag n a tm) (hg : o.guard = some (i, b)) (hi : ops[i]? = some og) (hog : og.dst = some g) (hb : lk tm g = some undef) : Region.wanted o (yielded ops a.tmps) = false := by
  have hget : a.tmps.getD g undef = undef := ha.get g _ hb
  simp only [Array.getD_eq_getD_getElem?] at hget
  cases hq : a.tmps[g]? with
  | none => simp [Region.wanted, hg, yielded, hi, hog, hq]
  | some u =>
    rw [hq] at hget
    have : u = undef := hget
    subst this
    simp [Region.wanted, hg, yielded, hi, hog, hq, undef]
theorem J.gnoU {ops : Array Oper} {i g : Nat} {b : Bool} {og : Oper} (hg : o.guard = some (i, b)) (hi : ops[i]? = some og) (hog : og.dst = some g) (hb : lk tm g = some undef) (hd : o.dst = some d) (hn : Nat.ble (d + 1) c.n = true)
    (h : J c ops Q l ((d, undef) :: tm) C F) : J c ops Q (o :: l) tm C F := by
  intro a w ha hs
  refine wpList_step fun K hK => ?_
  rw [if_neg (by rw [wanted_undef ha hg hi hog hb]; simp), hd]
  exact hK _ _ (h _ w (ha.put (Nat.le_of_ble_eq_true hn) undef) hs)
theorem D.skipGU {Cs : List Chunk} {Fs : World → Prop} {fuel : Nat} {listed : Array Bool} (i : Nat) {gi g : Nat} {b : Bool} {og : Oper} (hi : ops[i]? = some o) (hg : o.guard = some (gi, b)) (hgi : ops[gi]? = some og) (hog : og.dst = some g) (hb : lk tm g = some undef) (hd : o.dst = some d) (hn : Nat.ble (d + 1) c.n = true) (hs : Region.noSelect ops = true) (hf : Region.free .any ops listed i = true) (hr : ((Region.ready .any ops listed).contains i && closedB ops listed) = true)
    (hQ : PQ Q) (h : D c ops Q Cs Fs fuel (listed.setIfInBounds i true) ((d, undef) :: tm) C F) : D c ops Q Cs Fs (fuel + 1) listed tm C F := fun a w ha hst hS =>
  wpAnyL_first (S := fun w => St c w Cs Fs) (v := undef) hi (Region.noSelect_spec hs) (fun ch a w hq => hQ ch _ _ w (by cases o.dst <;> rfl) hq) fuel listed a w (Region.free_spec hi hf) (cls hr) (rdy hr) (.inr ⟨wanted_undef ha hg hgi hog hb, rfl⟩) hS (by
    rw [hd]
    exact h _ w (ha.put (Nat.le_of_ble_eq_true hn) undef) hst hS)
end
end Go.Sx
namespace Go.Sx
open Go Go.RowKit
set_option linter.unusedVariables false
set_option linter.unusedSimpArgs false
theorem sub_length (l : List H) (m : Nat) (known : Bool) (h1 : 1 ≤ m) (h2 : m ≤ l.length) : (sub l m known).length = (dirs m l.length).length + (if known = true ∧ true ∉ dirs m l.length then 0 else 1) := by
  rcases Decidable.em ((sub l m known).length = (dirs m l.length).length + (if known = true ∧ true ∉ dirs m l.length then 0 else 1)) with h | h
  · exact h
  · have := start_sub l.length l m known (Nat.le_refl _) h1 h2
    rw [start_len _ _ _ _ h] at this
    cases this
theorem prf_in (l : List H) (m : Nat) (h1 : 1 ≤ m) (h2 : m ≤ l.length) : prf l (m : Int) = sub l m true := by
  unfold prf
  rw [if_neg (by omega), Int.toNat_natCast]
theorem prf_out (l : List H) (m : Int) (h : m ≤ 0 ∨ (l.length : Int) < m) : prf l m = [] := if_pos h
theorem prf_le (l : List H) (m : Int) (t : Nat) (h : l.length ≤ 2 ^ t) : (prf l m).length ≤ t + 1 := by
  by_cases hm : m ≤ 0 ∨ (l.length : Int) < m
  · rw [prf_out l m hm]; simp
  · obtain ⟨k, rfl⟩ : ∃ k : Nat, m = k := ⟨m.toNat, by omega⟩
    rw [prf_in l k (by omega) (by omega), sub_length l k true (by omega) (by omega)]
    have := dirs_len t k l.length (by omega) (by omega) h
    split <;> omega
theorem chk_eq (m n : Nat) (a b : H) (p : List H) (h : m ≤ n) (hn : n ≤ 4096) : chk m n a b p = if chkOk m n a b p = true then 0 else 80 := by
  unfold chk
  rw [if_neg (by omega), Int.toNat_natCast, Int.toNat_natCast]
theorem chk_prf (l : List H) (m : Nat) (hm : m ≤ l.length) (hl : l.length ≤ 4096) : chk m l.length (root (l.take m)) (root l) (prf l m) = 0 := by
  rw [chk_eq _ _ _ _ _ hm hl]
  refine if_pos ?_
  unfold chkOk
  by_cases h0 : m = 0
  · subst h0
    rw [if_pos rfl, prf_out l _ (.inl (by omega))]
    by_cases hl0 : l = []
    · subst hl0; simp [root_nil]
    · have : 0 < l.length := List.length_pos_iff.2 hl0
      simp [root_nil, this]
  · rw [if_neg h0]
    by_cases hn : m = l.length
    · rw [if_pos hn, prf_in l m (by omega) hm, sub_all l m true hn, List.take_of_length_le (by omega)]
      simp
    · rw [if_neg hn, prf_in l m (by omega) hm]
      unfold verdict
      rw [start_sub l.length l m true (Nat.le_refl _) (by omega) hm]
      simp
theorem chk_other (l : List H) (m n : Nat) (a b : H) (p : List H) (hm : m ≤ l.length) (hn : l.length = n) (hl : l.length ≤ 4096) (hp : p.length ≠ (prf l m).length) : chk m n a b p = 80 := by
  subst hn
  rw [chk_eq _ _ _ _ _ hm hl]
  refine if_neg ?_
  unfold chkOk
  by_cases h0 : m = 0
  · subst h0
    rw [prf_out l _ (.inl (by omega))] at hp
    have : p.length ≠ 0 := hp
    rw [if_pos rfl]
    simp [this]
  · rw [if_neg h0]
    rw [prf_in l m (by omega) hm] at hp
    by_cases hn : m = l.length
    · rw [sub_all l m true hn] at hp
      have : p.length ≠ 0 := hp
      rw [if_pos hn]
      simp [this]
    · rw [sub_length l m true (by omega) hm] at hp
      rw [if_neg hn]
      unfold verdict
      rw [start_len _ _ _ _ hp]
      simp
theorem split2 : split 2 = 1 := by decide +kernel
theorem split3 : split 3 = 2 := by decide +kernel
theorem split4 : split 4 = 2 := by decide +kernel
theorem split5 : split 5 = 4 := by decide +kernel
theorem root2 (a b : H) : root [a, b] = node a b := by
  rw [root_two [a, b] (Nat.le_refl 2), show split [a, b].length = 1 from split2]
  rfl
theorem prf5_3 (a b c d e : H) : prf [a, b, c, d, e] ((3 : Nat) : Int) = [c, d, node a b, e] := by
  rw [prf_in _ 3 (by decide) (by show 3 ≤ 5; decide), sub_left _ 3 true (by decide) (by show 3 < 5; decide) (by show 3 ≤ split 5; rw [split5]; decide), show split [a, b, c, d, e].length = 4 from split5]
  show sub [a, b, c, d] 3 true ++ [root [e]] = _
  rw [sub_right _ 3 true (by show 3 < 4; decide) (by show ¬ 3 ≤ split 4; rw [split4]; decide), show split [a, b, c, d].length = 2 from split4]
  show (sub [c, d] 1 false ++ [root [a, b]]) ++ [root [e]] = _
  rw [sub_left _ 1 false (by decide) (by show 1 < 2; decide) (by show 1 ≤ split 2; rw [split2]; decide), show split [c, d].length = 1 from split2]
  show ((sub [c] 1 false ++ [root [d]]) ++ [root [a, b]]) ++ [root [e]] = _
  rw [sub_all _ 1 false rfl, root2]
  rfl
theorem prf5_4 (a b c d e : H) : prf [a, b, c, d, e] ((4 : Nat) : Int) = [e] := by
  rw [prf_in _ 4 (by decide) (by show 4 ≤ 5; decide), sub_left _ 4 true (by decide) (by show 4 < 5; decide) (by show 4 ≤ split 5; rw [split5]; decide), show split [a, b, c, d, e].length = 4 from split5]
  show sub [a, b, c, d] 4 true ++ [root [e]] = _
  rw [sub_all _ 4 true rfl]
  rfl
theorem prf5_5 (a b c d e : H) : prf [a, b, c, d, e] ((5 : Nat) : Int) = [] := by
  rw [prf_in _ 5 (by decide) (by show 5 ≤ 5; decide), sub_all _ 5 true rfl]
  rfl
end Go.Sx
namespace Go.Sx
open Go Go.RowKit
set_option linter.unusedVariables false
set_option linter.unusedSimpArgs false
/-- The bits that a number has in common with one that is not below 0. -/
def andI (a : Int) (b : Nat) : Nat := (BitVec.ofInt 64 a &&& BitVec.ofInt 64 (b : Int)).toNat
theorem andI_le (a : Int) (b : Nat) (hb : b < 9223372036854775808) : andI a b ≤ b := by
  unfold andI
  have h : (BitVec.ofInt 64 (b : Int)).toNat = b := by
    rw [BitVec.ofInt_natCast, BitVec.toNat_ofNat]; omega
  rw [BitVec.toNat_and, h]
  exact Nat.and_le_right
theorem hcs_set (p : List H) (i : Nat) (x : H) (hi : i < p.length) : spl (hcs p) (i * 32) (hc x) = hcs (p.set i x) := by
  simp only [spl, hcl]
  rw [hcs_take, show i * 32 + 32 = (i + 1) * 32 by omega, hcs_drop, List.set_eq_take_append_cons_drop, if_pos hi, hcs_append, hcs_cons, List.append_assoc]
section
variable {c : Cx} {tm : Env} {C : List Chunk} {F : World → Prop} {o : Oper} {v : Value} {x y z : Operand} {t t' e : TypeId} {d : Nat}
theorem y_andI {a b' : Int} (b : Nat) (ho : o.op = .binOp .and t x y t') (hx : ev tm x = some (.int .i64 a)) (hy : ev tm y = some (.int .i64 b')) (he : b' = b) (hb : b < 9223372036854775808) : Yl c tm C F o (.int .i64 (andI a b : Int)) := by
  subst he
  refine y_and ho hx hy ?_
  have := andI_le a b hb
  show IntKind.i64.wrap ((andI a b : Nat) : Int) = _
  rw [IntKind.wrap_i64]; omega
theorem y_ito8I {k : IntKind} {a : Int} (ho : o.op = .convert t t' x) (hs : (c.P.underlying t).isSome = true) (hd : c.P.underlying t' = some (.int .u8)) (hx : ev tm x = some (.int k a)) : Yl c tm C F o (u8 (UInt8.ofNat (a % 256).toNat)) :=
  y_conv ho hs hd hx (by rw [IntKind.wrap_u8, UInt8.toNat_ofNat']; omega)
theorem y_remN {a b : Int} (m n : Nat) (ho : o.op = .binOp .rem t x y t') (hx : ev tm x = some (.int .i64 a)) (hy : ev tm y = some (.int .i64 b)) (ha : a = m) (hb : b = n) (hn : 0 < n) : Yl c tm C F o (.int .i64 ((m % n : Nat) : Int)) := by
  subst ha; subst hb
  exact (y_rem64 ho hx hy ⟨by omega, by omega⟩).to (by rw [Int.natCast_emod])
end
end Go.Sx
