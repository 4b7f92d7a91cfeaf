/- Speculum proofs: proofs that one tree is another one's beginning, in plain words. No program in sight. -/
import Derived.Test.YtjkfeonbioccmaaDoorTr
namespace Go.Sx
open Go Go.RowKit
set_option linter.unusedVariables false
set_option linter.unusedSimpArgs false

/-! ### the proof -/
def subF : Nat → List H → Nat → Bool → List H
  | 0, l, m, known => if m = l.length then (if known then [] else [root l]) else []
  | f + 1, l, m, known => if m = l.length then (if known then [] else [root l]) else
    if m ≤ split l.length then subF f (l.take (split l.length)) m known ++ [root (l.drop (split l.length))]
    else subF f (l.drop (split l.length)) (m - split l.length) false ++ [root (l.take (split l.length))]
def sub (l : List H) (m : Nat) (known : Bool) : List H := subF l.length l m known
theorem subF_eq : ∀ (f g : Nat) (l : List H) (m : Nat) (known : Bool), 1 ≤ m → m ≤ l.length → l.length ≤ f + 1 → l.length ≤ g + 1 → subF f l m known = subF g l m known := by
  intro f
  induction f with
  | zero =>
    intro g l m known h1 h2 hf hg
    have hm : m = l.length := by omega
    cases g <;> simp [subF, hm]
  | succ f ih =>
    intro g l m known h1 h2 hf hg
    by_cases hm : m = l.length
    · cases g <;> simp [subF, hm]
    · have hs := split_spec (show 2 ≤ l.length by omega)
      cases g with
      | zero => omega
      | succ g =>
        rw [subF, subF, if_neg hm, if_neg hm]
        by_cases hk : m ≤ split l.length
        · rw [if_pos hk, if_pos hk, ih g _ _ _ h1 (by rw [List.length_take]; omega) (by rw [List.length_take]; omega) (by rw [List.length_take]; omega)]
        · rw [if_neg hk, if_neg hk, ih g _ _ _ (by omega) (by rw [List.length_drop]; omega) (by rw [List.length_drop]; omega) (by rw [List.length_drop]; omega)]
theorem sub_all (l : List H) (m : Nat) (known : Bool) (h : m = l.length) : sub l m known = if known then [] else [root l] := by
  unfold sub
  cases l.length <;> simp [subF, h]
theorem sub_left (l : List H) (m : Nat) (known : Bool) (h1 : 1 ≤ m) (h2 : m < l.length) (h : m ≤ split l.length) : sub l m known = sub (l.take (split l.length)) m known ++ [root (l.drop (split l.length))] := by
  have hs := split_spec (show 2 ≤ l.length by omega)
  obtain ⟨f, hf⟩ : ∃ f, l.length = f + 1 := ⟨l.length - 1, by omega⟩
  unfold sub
  rw [hf, subF, if_neg (by omega), if_pos h, subF_eq f (l.take (split l.length)).length _ _ _ h1 (by rw [List.length_take]; omega) (by rw [List.length_take]; omega) (by omega), hf]
theorem sub_right (l : List H) (m : Nat) (known : Bool) (h2 : m < l.length) (h : ¬ m ≤ split l.length) : sub l m known = sub (l.drop (split l.length)) (m - split l.length) false ++ [root (l.take (split l.length))] := by
  have hs := split_spec (show 2 ≤ l.length by omega)
  obtain ⟨f, hf⟩ : ∃ f, l.length = f + 1 := ⟨l.length - 1, by omega⟩
  unfold sub
  rw [hf, subF, if_neg (by omega), if_neg h, subF_eq f (l.drop (split l.length)).length _ _ _ (by omega) (by rw [List.length_drop]; omega) (by rw [List.length_drop]; omega) (by omega), hf]

/-! ### the way from a leaf to the root: true where the sibling is to the left -/
def dirsF : Nat → Nat → Nat → List Bool
  | 0, _, _ => []
  | f + 1, m, n => if m = n then [] else if m ≤ split n then dirsF f m (split n) ++ [false] else dirsF f (m - split n) (n - split n) ++ [true]
def dirs (m n : Nat) : List Bool := dirsF n m n
theorem dirsF_eq : ∀ (f g m n : Nat), 1 ≤ m → m ≤ n → n ≤ f + 1 → n ≤ g + 1 → dirsF f m n = dirsF g m n := by
  intro f
  induction f with
  | zero =>
    intro g m n h1 h2 hf hg
    have hm : m = n := by omega
    cases g <;> simp [dirsF, hm]
  | succ f ih =>
    intro g m n h1 h2 hf hg
    by_cases hm : m = n
    · cases g <;> simp [dirsF, hm]
    · have hs := split_spec (show 2 ≤ n by omega)
      cases g with
      | zero => omega
      | succ g =>
        rw [dirsF, dirsF, if_neg hm, if_neg hm]
        by_cases hk : m ≤ split n
        · rw [if_pos hk, if_pos hk, ih g _ _ h1 hk (by omega) (by omega)]
        · rw [if_neg hk, if_neg hk, ih g _ _ (by omega) (by omega) (by omega) (by omega)]
theorem dirs_all (n : Nat) : dirs n n = [] := by
  unfold dirs
  cases n <;> simp [dirsF]
theorem dirs_left (m n : Nat) (h1 : 1 ≤ m) (h2 : m < n) (h : m ≤ split n) : dirs m n = dirs m (split n) ++ [false] := by
  have hs := split_spec (show 2 ≤ n by omega)
  obtain ⟨f, rfl⟩ : ∃ f, n = f + 1 := ⟨n - 1, by omega⟩
  unfold dirs
  rw [dirsF, if_neg (by omega), if_pos h, dirsF_eq f (split (f + 1)) _ _ h1 h (by omega) (by omega)]
theorem dirs_right (m n : Nat) (h2 : m < n) (h : ¬ m ≤ split n) : dirs m n = dirs (m - split n) (n - split n) ++ [true] := by
  have hs := split_spec (show 2 ≤ n by omega)
  obtain ⟨f, rfl⟩ : ∃ f, n = f + 1 := ⟨n - 1, by omega⟩
  unfold dirs
  rw [dirsF, if_neg (by omega), if_neg h, dirsF_eq f (f + 1 - split (f + 1)) _ _ (by omega) (by omega) (by omega) (by omega)]
theorem dirs_len : ∀ (t m n : Nat), 1 ≤ m → m ≤ n → n ≤ 2 ^ t → (dirs m n).length ≤ t := by
  intro t
  induction t with
  | zero =>
    intro m n h1 h2 h3
    have h4 : n ≤ 1 := by simpa using h3
    have : m = n := by omega
    rw [this, dirs_all]; exact Nat.zero_le _
  | succ t ih =>
    intro m n h1 h2 h3
    by_cases hm : m = n
    · rw [hm, dirs_all]; exact Nat.zero_le _
    · have hs := split_spec (show 2 ≤ n by omega)
      have hk : split n ≤ 2 ^ t := by
        obtain ⟨j, hj⟩ := split_pow (show 2 ≤ n by omega)
        rw [hj]
        have h5 : 2 ^ j < 2 ^ (t + 1) := by rw [← hj]; omega
        have h6 : j < t + 1 := (Nat.pow_lt_pow_iff_right (show 1 < 2 by decide)).1 h5
        exact Nat.pow_le_pow_right (by decide) (by omega)
      by_cases hk2 : m ≤ split n
      · rw [dirs_left m n h1 (by omega) hk2, List.length_append]
        have := ih m (split n) h1 hk2 hk
        simpa using this
      · rw [dirs_right m n (by omega) hk2, List.length_append]
        have := ih (m - split n) (n - split n) (by omega) (by omega) (by omega)
        simpa using this
/-- Each step takes a hash. -/
def run : List Bool → H → H → List H → Option (H × H)
  | [], a, b, [] => some (a, b)
  | [], _, _, _ :: _ => none
  | _ :: _, _, _, [] => none
  | true :: ds, a, b, h :: p => run ds (node h a) (node h b) p
  | false :: ds, a, b, h :: p => run ds a (node b h) p
/-- From the beginning: what is known needs no hash. -/
def start (ds : List Bool) (known : Bool) (older : H) (p : List H) : Option (H × H) :=
  if known = true ∧ true ∉ ds then run ds older older p else match p with
    | [] => none
    | h :: p => run ds h h p
def step1 (d : Bool) (h : H) (q : H × H) : H × H := if d then (node h q.1, node h q.2) else (q.1, node q.2 h)
theorem run_len : ∀ (ds : List Bool) (a b : H) (p : List H), p.length ≠ ds.length → run ds a b p = none := by
  intro ds
  induction ds with
  | nil => intro a b p h; cases p with
    | nil => simp at h
    | cons x p => rfl
  | cons d ds ih =>
    intro a b p h
    cases p with
    | nil => rfl
    | cons x p =>
      cases d
      · exact ih _ _ _ (by simpa using h)
      · exact ih _ _ _ (by simpa using h)
theorem run_snoc : ∀ (ds : List Bool) (d : Bool) (a b : H) (p : List H) (h : H), run (ds ++ [d]) a b (p ++ [h]) = (run ds a b p).map (step1 d h) := by
  intro ds
  induction ds with
  | nil =>
    intro d a b p h
    cases p with
    | nil => cases d <;> rfl
    | cons x p =>
      have : run ([] ++ [d]) a b (x :: p ++ [h]) = none := run_len _ _ _ _ (by simp)
      rw [this]; rfl
  | cons e ds ih =>
    intro d a b p h
    cases p with
    | nil =>
      have : run (e :: ds ++ [d]) a b ([] ++ [h]) = none := run_len _ _ _ _ (by simp)
      rw [this]; rfl
    | cons x p =>
      cases e
      · exact ih d _ _ p h
      · exact ih d _ _ p h
theorem start_len (ds : List Bool) (known : Bool) (older : H) (p : List H) (h : p.length ≠ ds.length + (if known = true ∧ true ∉ ds then 0 else 1)) : start ds known older p = none := by
  unfold start
  by_cases hk : known = true ∧ true ∉ ds
  · rw [if_pos hk] at h ⊢
    exact run_len _ _ _ _ (by simpa using h)
  · rw [if_neg hk] at h ⊢
    cases p with
    | nil => rfl
    | cons x p => exact run_len _ _ _ _ (by simpa using h)
/-- What a proof proves: the roots of the beginning and of all. -/
theorem start_sub : ∀ (N : Nat) (l : List H) (m : Nat) (known : Bool), l.length ≤ N → 1 ≤ m → m ≤ l.length → start (dirs m l.length) known (root (l.take m)) (sub l m known) = some (root (l.take m), root l) := by
  intro N
  induction N with
  | zero => intro l m known h0 h1 h2; omega
  | succ N ih =>
    intro l m known h0 h1 h2
    by_cases hm : m = l.length
    · have ht : l.take m = l := List.take_of_length_le (by omega)
      rw [ht, sub_all l m known hm, hm, dirs_all]
      cases known
      · rfl
      · rfl
    · have hs := split_spec (show 2 ≤ l.length by omega)
      by_cases hk : m ≤ split l.length
      · have hlt : (l.take (split l.length)).length = split l.length := by rw [List.length_take]; omega
        have hi := ih (l.take (split l.length)) m known (by omega) h1 (by omega)
        rw [hlt, List.take_take, Nat.min_eq_left hk] at hi
        rw [sub_left l m known h1 (by omega) hk, dirs_left m _ h1 (by omega) hk, root_two l (by omega)]
        have hmem : (true ∉ dirs m (split l.length) ++ [false]) ↔ true ∉ dirs m (split l.length) := by simp
        unfold start at hi ⊢
        by_cases hc : known = true ∧ true ∉ dirs m (split l.length)
        · rw [if_pos hc] at hi
          rw [if_pos ⟨hc.1, hmem.2 hc.2⟩, run_snoc, hi]; rfl
        · rw [if_neg hc] at hi
          rw [if_neg (fun hh => hc ⟨hh.1, hmem.1 hh.2⟩)]
          cases hsub : sub (l.take (split l.length)) m known with
          | nil => rw [hsub] at hi; cases hi
          | cons x p =>
            rw [hsub] at hi
            rw [List.cons_append]
            show run _ x x (p ++ [_]) = _
            rw [run_snoc]
            have hi' : run (dirs m (split l.length)) x x p = _ := hi
            rw [hi']; rfl
      · have hld : (l.drop (split l.length)).length = l.length - split l.length := by rw [List.length_drop]
        have hi := ih (l.drop (split l.length)) (m - split l.length) false (by omega) (by omega) (by omega)
        rw [hld] at hi
        rw [sub_right l m known (by omega) hk, dirs_right m _ (by omega) hk, root_two l (by omega)]
        have htk : l.take m = l.take (split l.length) ++ (l.drop (split l.length)).take (m - split l.length) := by
          rw [← List.take_add, show split l.length + (m - split l.length) = m by omega]
        have hsp : split m = split l.length := by
          obtain ⟨j, hj⟩ := split_pow (show 2 ≤ l.length by omega)
          exact (split_uniq ⟨j, hj⟩ (by omega) (by omega)).symm
        have hlm : (l.take m).length = m := by rw [List.length_take]; omega
        have hrt : root (l.take m) = node (root (l.take (split l.length))) (root ((l.drop (split l.length)).take (m - split l.length))) := by
          rw [root_two _ (by omega), hlm, hsp, List.take_take, Nat.min_eq_left (by omega), htk, List.drop_append, List.drop_of_length_le (by rw [List.length_take]; omega), List.length_take, Nat.min_eq_left (by omega), Nat.sub_self, List.drop_zero, List.nil_append]
        unfold start at hi ⊢
        rw [if_neg (by simp)] at hi
        rw [if_neg (by simp)]
        cases hsub : sub (l.drop (split l.length)) (m - split l.length) false with
        | nil => rw [hsub] at hi; cases hi
        | cons x p =>
          rw [hsub] at hi
          rw [List.cons_append]
          show run _ x x (p ++ [_]) = _
          rw [run_snoc]
          have hi' : run (dirs (m - split l.length) (l.length - split l.length)) x x p = _ := hi
          rw [hi', hrt]; rfl

/-! ### how the document puts it: from the root -/
def saysF : Nat → Nat → Nat → Bool → H → List H → H × H × Bool
  | 0, _, _, _, older, _ => (older, older, false)
  | f + 1, m, n, known, older, p =>
    if m = n then (if known then (older, older, decide (p.length = 0)) else if p.length ≠ 1 then (older, older, false) else (p.getD 0 H.zero, p.getD 0 H.zero, true))
    else if p.length = 0 then (older, older, false)
    else if m ≤ split n then
      ((saysF f m (split n) known older (p.take (p.length - 1))).1, node (saysF f m (split n) known older (p.take (p.length - 1))).2.1 (p.getD (p.length - 1) H.zero), (saysF f m (split n) known older (p.take (p.length - 1))).2.2)
    else
      (node (p.getD (p.length - 1) H.zero) (saysF f (m - split n) (n - split n) false older (p.take (p.length - 1))).1, node (p.getD (p.length - 1) H.zero) (saysF f (m - split n) (n - split n) false older (p.take (p.length - 1))).2.1, (saysF f (m - split n) (n - split n) false older (p.take (p.length - 1))).2.2)
theorem take_last (p : List H) (h : p.length ≠ 0) : p = p.take (p.length - 1) ++ [p.getD (p.length - 1) H.zero] := by
  have hlt : p.length - 1 < p.length := by omega
  have h1 : p.getD (p.length - 1) H.zero = p[p.length - 1] := by rw [List.getD_eq_getElem?_getD, List.getElem?_eq_getElem hlt]; rfl
  conv => lhs; rw [← List.take_append_drop (p.length - 1) p]
  rw [h1]
  congr 1
  rw [List.drop_eq_getElem_cons hlt, List.drop_of_length_le (by omega)]
theorem says_start : ∀ (f m n : Nat) (known : Bool) (older : H) (p : List H), 1 ≤ m → m ≤ n → n ≤ f → start (dirs m n) known older p = (if (saysF f m n known older p).2.2 = true then some ((saysF f m n known older p).1, (saysF f m n known older p).2.1) else none) := by
  intro f
  induction f with
  | zero => intro m n known older p h1 h2 h3; omega
  | succ f ih =>
    intro m n known older p h1 h2 h3
    by_cases hm : m = n
    · rw [hm, dirs_all, saysF, if_pos rfl]
      cases known with
      | true =>
        simp only [if_true]
        by_cases hp : p.length = 0
        · have : p = [] := List.eq_nil_of_length_eq_zero hp
          subst this; rfl
        · simp only [hp, decide_false, Bool.false_eq_true, if_false]
          exact start_len _ _ _ _ (by simpa using hp)
      | false =>
        simp only [Bool.false_eq_true, if_false]
        by_cases hp : p.length ≠ 1
        · rw [if_pos hp]
          exact start_len _ _ _ _ (by simpa using hp)
        · rw [if_neg hp]
          match p, hp with
          | [x], _ => rfl
          | [], hp => simp at hp
          | x :: y :: r, hp => simp at hp
    · have hs := split_spec (show 2 ≤ n by omega)
      rw [saysF, if_neg hm]
      by_cases hp : p.length = 0
      · rw [if_pos hp]
        have : p = [] := List.eq_nil_of_length_eq_zero hp
        subst this
        rw [if_neg (by simp)]
        unfold start
        split
        · apply run_len
          by_cases hk : m ≤ split n
          · rw [dirs_left m n h1 (by omega) hk]; simp
          · rw [dirs_right m n (by omega) hk]; simp
        · rfl
      · rw [if_neg hp]
        have hpl := take_last p hp
        by_cases hk : m ≤ split n
        · have hi := ih m (split n) known older (p.take (p.length - 1)) h1 hk (by omega)
          rw [if_pos hk]
          generalize hq : saysF f m (split n) known older (p.take (p.length - 1)) = q at hi ⊢
          obtain ⟨qa, qb, qo⟩ := q
          dsimp only at hi ⊢
          generalize p.getD (p.length - 1) H.zero = z at hpl ⊢
          generalize p.take (p.length - 1) = r at hpl hi hq
          subst hpl
          rw [dirs_left m n h1 (by omega) hk]
          have hmem : (true ∉ dirs m (split n) ++ [false]) ↔ true ∉ dirs m (split n) := by simp
          unfold start at hi ⊢
          by_cases hc : known = true ∧ true ∉ dirs m (split n)
          · rw [if_pos hc] at hi
            rw [if_pos ⟨hc.1, hmem.2 hc.2⟩, run_snoc, hi]
            cases qo <;> rfl
          · rw [if_neg hc] at hi
            rw [if_neg (fun hh => hc ⟨hh.1, hmem.1 hh.2⟩)]
            cases r with
            | nil =>
              have hrun : run (dirs m (split n) ++ [false]) z z [] = none := run_len _ _ _ _ (by simp)
              show run _ z z [] = _
              rw [hrun]
              have hi' : none = _ := hi
              cases qo
              · rfl
              · cases hi'
            | cons x r =>
              rw [List.cons_append]
              show run _ x x (r ++ [z]) = _
              rw [run_snoc]
              have hi' : run (dirs m (split n)) x x r = _ := hi
              rw [hi']
              cases qo <;> rfl
        · have hi := ih (m - split n) (n - split n) false older (p.take (p.length - 1)) (by omega) (by omega) (by omega)
          rw [if_neg hk]
          generalize hq : saysF f (m - split n) (n - split n) false older (p.take (p.length - 1)) = q at hi ⊢
          obtain ⟨qa, qb, qo⟩ := q
          dsimp only at hi ⊢
          generalize p.getD (p.length - 1) H.zero = z at hpl ⊢
          generalize p.take (p.length - 1) = r at hpl hi hq
          subst hpl
          rw [dirs_right m n (by omega) hk]
          unfold start at hi ⊢
          rw [if_neg (by simp)] at hi
          rw [if_neg (by simp)]
          cases r with
          | nil =>
            have hrun : run (dirs (m - split n) (n - split n) ++ [true]) z z [] = none := run_len _ _ _ _ (by simp)
            show run _ z z [] = _
            rw [hrun]
            have hi' : none = _ := hi
            cases qo
            · rfl
            · cases hi'
          | cons x r =>
            rw [List.cons_append]
            show run _ x x (r ++ [z]) = _
            rw [run_snoc]
            have hi' : run (dirs (m - split n) (n - split n)) x x r = _ := hi
            rw [hi']
            cases qo <;> rfl
end Go.Sx
