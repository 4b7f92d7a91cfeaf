/- Speculum proofs: paths, in plain words: what they are, what is climbed by them, that halving leads the way that the splits lead. -/
/- Speculum proofs: the hashes of all full trees of leaves, in plain words: what a leaf more changes, what is told of any first leaves. -/
/- Speculum proofs: ranges, in plain words: trees side by side, what one more does to them, the root of them all, the parts of leaves. -/
/- Speculum proofs: how many bits are 1, as the library reckons it. No program in sight. -/
import Derived.Test.YtjkfeonbioccmaaDoorMd
import Derived.KernelRfl
namespace Go.Sx
open Go Go.RowKit
set_option linter.unusedVariables false
set_option linter.unusedSimpArgs false
def pathF : Nat → List H → Nat → List H
  | 0, _, _ => []
  | f + 1, l, i => if l.length ≤ 1 then [] else if i < split l.length then pathF f (l.take (split l.length)) i ++ [root (l.drop (split l.length))]
    else pathF f (l.drop (split l.length)) (i - split l.length) ++ [root (l.take (split l.length))]
/-- What proves that a leaf is among leaves. -/
def path (l : List H) (i : Nat) : List H := pathF l.length l i
theorem pathF_eq : ∀ (f g : Nat) (l : List H) (i : Nat), l.length ≤ f + 1 → l.length ≤ g + 1 → pathF f l i = pathF g l i := by
  intro f
  induction f with
  | zero =>
    intro g l i hf hg
    cases g with
    | zero => rfl
    | succ g => rw [pathF, pathF, if_pos (by omega)]
  | succ f ih =>
    intro g l i hf hg
    by_cases hm : l.length ≤ 1
    · cases g with
      | zero => rw [pathF, pathF, if_pos hm]
      | succ g => rw [pathF, pathF, if_pos hm, if_pos hm]
    · have hs := split_spec (show 2 ≤ l.length by omega)
      cases g with
      | zero => omega
      | succ g =>
        rw [pathF, pathF, if_neg hm, if_neg hm]
        by_cases hk : i < split l.length
        · rw [if_pos hk, if_pos hk, ih g _ _ (by rw [List.length_take]; omega) (by rw [List.length_take]; omega)]
        · rw [if_neg hk, if_neg hk, ih g _ _ (by rw [List.length_drop]; omega) (by rw [List.length_drop]; omega)]
theorem path_one (l : List H) (i : Nat) (h : l.length ≤ 1) : path l i = [] := by
  unfold path
  obtain h0 | h1 : l.length = 0 ∨ l.length = 1 := by omega
  · rw [h0]; rfl
  · rw [h1, pathF, if_pos h]
theorem path_left (l : List H) (i : Nat) (h2 : 2 ≤ l.length) (h : i < split l.length) : path l i = path (l.take (split l.length)) i ++ [root (l.drop (split l.length))] := by
  have hs := split_spec h2
  obtain ⟨f, hf⟩ : ∃ f, l.length = f + 1 := ⟨l.length - 1, by omega⟩
  unfold path
  rw [hf, pathF, if_neg (by omega), if_pos h, pathF_eq f (l.take (split l.length)).length _ _ (by rw [List.length_take]; omega) (by omega), hf]
theorem path_right (l : List H) (i : Nat) (h2 : 2 ≤ l.length) (h : ¬ i < split l.length) : path l i = path (l.drop (split l.length)) (i - split l.length) ++ [root (l.take (split l.length))] := by
  have hs := split_spec h2
  obtain ⟨f, hf⟩ : ∃ f, l.length = f + 1 := ⟨l.length - 1, by omega⟩
  unfold path
  rw [hf, pathF, if_neg (by omega), if_neg h, pathF_eq f (l.drop (split l.length)).length _ _ (by rw [List.length_drop]; omega) (by omega), hf]
theorem path_le : ∀ (t : Nat) (l : List H) (i : Nat), l.length ≤ 2 ^ t → (path l i).length ≤ t := by
  intro t
  induction t with
  | zero =>
    intro l i h
    rw [path_one l i (by simpa using h)]; exact Nat.zero_le _
  | succ t ih =>
    intro l i h
    by_cases h2 : 2 ≤ l.length
    · have hs := split_spec h2
      have hk : split l.length ≤ 2 ^ t := by
        obtain ⟨j, hj⟩ := split_pow h2
        rw [hj]
        have h5 : 2 ^ j < 2 ^ (t + 1) := by rw [← hj]; omega
        have h6 : j < t + 1 := (Nat.pow_lt_pow_iff_right (show 1 < 2 by decide)).1 h5
        exact Nat.pow_le_pow_right (by decide) (by omega)
      by_cases hi : i < split l.length
      · rw [path_left l i h2 hi, List.length_append]
        have := ih (l.take (split l.length)) i (by rw [List.length_take]; omega)
        simpa using this
      · rw [path_right l i h2 hi, List.length_append]
        have := ih (l.drop (split l.length)) (i - split l.length) (by rw [List.length_drop]; omega)
        simpa using this
    · rw [path_one l i (by omega)]; exact Nat.zero_le _

/-! ### climbing -/
def climb : List Bool → H → List H → Option H
  | [], a, [] => some a
  | [], _, _ :: _ => none
  | _ :: _, _, [] => none
  | true :: ds, a, h :: p => climb ds (node h a) p
  | false :: ds, a, h :: p => climb ds (node a h) p
def stepC (d : Bool) (h a : H) : H := if d then node h a else node a h
theorem climb_len : ∀ (ds : List Bool) (a : H) (p : List H), p.length ≠ ds.length → climb ds a p = none := by
  intro ds
  induction ds with
  | nil => intro a p h; cases p with
    | nil => simp at h
    | cons x p => rfl
  | cons d ds ih =>
    intro a p h
    cases p with
    | nil => rfl
    | cons x p =>
      have hp : p.length ≠ ds.length := by simpa using h
      cases d
      · exact ih _ p hp
      · exact ih _ p hp
theorem climb_snoc : ∀ (ds : List Bool) (d : Bool) (a : H) (p : List H) (h : H), climb (ds ++ [d]) a (p ++ [h]) = (climb ds a p).map (stepC d h) := by
  intro ds
  induction ds with
  | nil =>
    intro d a p h
    cases p with
    | nil => cases d <;> rfl
    | cons x p =>
      have : climb ([] ++ [d]) a (x :: p ++ [h]) = none := climb_len _ _ _ (by simp)
      rw [this]; rfl
  | cons e ds ih =>
    intro d a p h
    cases p with
    | nil =>
      have : climb (e :: ds ++ [d]) a ([] ++ [h]) = none := climb_len _ _ _ (by simp)
      rw [this]; rfl
    | cons x p =>
      cases e
      · exact ih d _ p h
      · exact ih d _ p h
theorem up_down_l (i n : Nat) (h2 : 2 ≤ n) (h : i < split n) : up i (n - 1) = up i (split n - 1) ++ [false] := by
  have hs := split_spec h2
  obtain ⟨j, hj⟩ := split_pow h2
  have hdiv : (n - 1) / 2 ^ j = 1 := by
    rw [← hj]
    exact Nat.div_eq_of_lt_le (by omega) (by omega)
  rw [hj]
  exact up_left j i (n - 1) (by rw [← hj]; exact h) hdiv
theorem up_down_r (i n : Nat) (h2 : 2 ≤ n) (hi : i < n) (h : ¬ i < split n) : up i (n - 1) = up (i - split n) (n - split n - 1) ++ [true] := by
  have hs := split_spec h2
  obtain ⟨j, hj⟩ := split_pow h2
  have := up_right j (i - split n) (n - split n - 1) (by omega) (by rw [← hj]; omega)
  rw [← hj, show i - split n + split n = i by omega, show n - split n - 1 + split n = n - 1 by omega] at this
  exact this
/-- A path is climbed to the root. -/
theorem climb_path : ∀ (N : Nat) (l : List H) (i : Nat) (x : H), l.length ≤ N → l[i]? = some x → climb (up i (l.length - 1)) x (path l i) = some (root l) := by
  intro N
  induction N with
  | zero =>
    intro l i x h0 hx
    obtain ⟨hi, _⟩ := List.getElem?_eq_some_iff.1 hx
    omega
  | succ N ih =>
    intro l i x h0 hx
    obtain ⟨hi, _⟩ := List.getElem?_eq_some_iff.1 hx
    by_cases h2 : 2 ≤ l.length
    · have hs := split_spec h2
      by_cases hk : i < split l.length
      · have := ih (l.take (split l.length)) i x (by rw [List.length_take]; omega) (by rw [List.getElem?_take_of_lt hk]; exact hx)
        rw [List.length_take, Nat.min_eq_left (by omega)] at this
        rw [up_down_l i _ h2 hk, path_left l i h2 hk, climb_snoc, this, root_two l h2]
        rfl
      · have := ih (l.drop (split l.length)) (i - split l.length) x (by rw [List.length_drop]; omega) (by rw [List.getElem?_drop, show split l.length + (i - split l.length) = i by omega]; exact hx)
        rw [List.length_drop] at this
        rw [up_down_r i _ h2 hi hk, path_right l i h2 hk, climb_snoc, this, root_two l h2]
        rfl
    · match l, hi, hx, h2 with
      | [y], hi, hx, h2 =>
        obtain rfl : i = 0 := by simpa using hi
        simp only [List.getElem?_cons_zero, Option.some.injEq] at hx
        subst hx
        rw [path_one _ _ (by simp)]
        rfl
      | y :: z :: r, hi, hx, h2 => simp at h2
/-- What a leaf, its number and a path come to. -/
def comeF : Nat → H → Nat → Nat → List H → H × Bool
  | 0, leaf, _, _, _ => (leaf, false)
  | f + 1, leaf, i, n, p => if n = 1 then (leaf, decide (p.length = 0)) else if p.length = 0 then (leaf, false) else
    if i < split n then (node (comeF f leaf i (split n) (p.take (p.length - 1))).1 (p.getD (p.length - 1) H.zero), (comeF f leaf i (split n) (p.take (p.length - 1))).2)
    else (node (p.getD (p.length - 1) H.zero) (comeF f leaf (i - split n) (n - split n) (p.take (p.length - 1))).1, (comeF f leaf (i - split n) (n - split n) (p.take (p.length - 1))).2)
theorem come_climb : ∀ (f : Nat) (leaf : H) (i n : Nat) (p : List H), 1 ≤ n → i < n → n ≤ f → climb (up i (n - 1)) leaf p = (if (comeF f leaf i n p).2 = true then some (comeF f leaf i n p).1 else none) := by
  intro f
  induction f with
  | zero => intro leaf i n p h1 h2 h3; omega
  | succ f ih =>
    intro leaf i n p h1 h2 h3
    by_cases hn : n = 1
    · subst hn
      rw [comeF, if_pos rfl]
      cases p with
      | nil => rfl
      | cons x p => rfl
    · have hs := split_spec (show 2 ≤ n by omega)
      rw [comeF, if_neg hn]
      by_cases hp : p.length = 0
      · rw [if_pos hp]
        obtain rfl : p = [] := List.eq_nil_of_length_eq_zero hp
        by_cases hk : i < split n
        · rw [up_down_l i n (by omega) hk, climb_len _ _ _ (by simp)]; rfl
        · rw [up_down_r i n (by omega) h2 hk, climb_len _ _ _ (by simp)]; rfl
      · rw [if_neg hp]
        have hl := take_last p hp
        by_cases hk : i < split n
        · rw [if_pos hk, up_down_l i n (by omega) hk]
          have := ih leaf i (split n) (p.take (p.length - 1)) hs.1 hk (by omega)
          conv => lhs; rw [hl]
          rw [climb_snoc, this]
          dsimp only
          split <;> rfl
        · rw [if_neg hk, up_down_r i n (by omega) h2 hk]
          have := ih leaf (i - split n) (n - split n) (p.take (p.length - 1)) (by omega) (by omega) (by omega)
          conv => lhs; rw [hl]
          rw [climb_snoc, this]
          dsimp only
          split <;> rfl
/-- The verdict on a path. -/
def pchk (leaf : H) (i n : Int) (p : List H) (r : H) : Int := if n < 1 ∨ 4096 < n ∨ i < 0 ∨ n ≤ i then 2 else if climb (up i.toNat (n.toNat - 1)) leaf p = some r then 0 else 80
def pth (l : List H) (i : Int) : List H := if i < 0 ∨ (l.length : Int) ≤ i then [] else path l i.toNat
def pthE (l : List H) (i : Int) : Int := if i < 0 ∨ (l.length : Int) ≤ i then 2 else 0
theorem pchk_path (l : List H) (i : Nat) (x : H) (hx : l[i]? = some x) (hl : l.length ≤ 4096) : pchk x i l.length (pth l i) (root l) = 0 := by
  obtain ⟨hi, _⟩ := List.getElem?_eq_some_iff.1 hx
  unfold pchk pth
  rw [if_neg (show ¬ ((l.length : Int) < 1 ∨ 4096 < (l.length : Int) ∨ (i : Int) < 0 ∨ (l.length : Int) ≤ (i : Int)) by omega), if_neg (show ¬ ((i : Int) < 0 ∨ (l.length : Int) ≤ (i : Int)) by omega), Int.toNat_natCast, Int.toNat_natCast]
  exact if_pos (climb_path l.length l i x (Nat.le_refl _) hx)
end Go.Sx
namespace Go.Sx
open Go Go.RowKit
set_option linter.unusedVariables false
set_option linter.unusedSimpArgs false
/-- Leaves from one up to another one. -/
def seg (l : List H) (a b : Nat) : List H := (l.take b).drop a
theorem seg_len (l : List H) (a b : Nat) (h : b ≤ l.length) : (seg l a b).length = b - a := by unfold seg; rw [List.length_drop, List.length_take]; omega
theorem seg_take (l : List H) (a b k : Nat) (h : a + k ≤ b) : (seg l a b).take k = seg l a (a + k) := by
  unfold seg
  rw [List.take_drop, List.take_take, Nat.min_eq_left h]
theorem seg_drop (l : List H) (a b k : Nat) : (seg l a b).drop k = seg l (a + k) b := by
  unfold seg
  rw [List.drop_drop]
theorem seg_snoc (l : List H) (x : H) (a b : Nat) (h : b ≤ l.length) : seg (l ++ [x]) a b = seg l a b := by
  unfold seg
  rw [List.take_append_of_le_length h]
/-- The root of the full tree of a level and an index. -/
def tile (l : List H) (a b : Int) : Option H := if 0 ≤ a ∧ 0 ≤ b ∧ (b.toNat + 1) * 2 ^ a.toNat ≤ l.length then some (root (seg l (b.toNat * 2 ^ a.toNat) ((b.toNat + 1) * 2 ^ a.toNat))) else none
theorem tile_nat (l : List H) (a b : Nat) : tile l a b = if (b + 1) * 2 ^ a ≤ l.length then some (root (seg l (b * 2 ^ a) ((b + 1) * 2 ^ a))) else none := by
  unfold tile
  rw [Int.toNat_natCast, Int.toNat_natCast]
  by_cases h : (b + 1) * 2 ^ a ≤ l.length
  · rw [if_pos h, if_pos ⟨by omega, by omega, h⟩]
  · rw [if_neg h, if_neg (fun e => h e.2.2)]
theorem split_two (a : Nat) : split (2 ^ (a + 1)) = 2 ^ a := by
  have hp : 0 < 2 ^ a := Nat.pow_pos (by decide)
  have e : 2 ^ (a + 1) = 2 ^ a * 2 := Nat.pow_succ 2 a
  exact (split_uniq ⟨a, rfl⟩ (by omega) (by omega)).symm
theorem root_block (l : List H) (a s : Nat) (h : s + 2 ^ (a + 1) ≤ l.length) : root (seg l s (s + 2 ^ (a + 1))) = node (root (seg l s (s + 2 ^ a))) (root (seg l (s + 2 ^ a) (s + 2 ^ (a + 1)))) := by
  have hp : 0 < 2 ^ a := Nat.pow_pos (by decide)
  have e : 2 ^ (a + 1) = 2 ^ a * 2 := Nat.pow_succ 2 a
  have hl := seg_len l s (s + 2 ^ (a + 1)) h
  rw [root_two _ (by omega), hl, show s + 2 ^ (a + 1) - s = 2 ^ (a + 1) by omega, split_two, seg_take _ _ _ _ (by omega), seg_drop]
/-- The tree that a leaf more makes whole. -/
theorem tile_snoc (l : List H) (x : H) (a b : Nat) : tile (l ++ [x]) a b = if (b + 1) * 2 ^ a = l.length + 1 then some (root (seg (l ++ [x]) (b * 2 ^ a) (l.length + 1))) else tile l a b := by
  rw [tile_nat, tile_nat, List.length_append, List.length_singleton]
  by_cases h : (b + 1) * 2 ^ a = l.length + 1
  · rw [if_pos (by omega), if_pos h, h]
  · rw [if_neg h]
    by_cases h2 : (b + 1) * 2 ^ a ≤ l.length
    · rw [if_pos (by omega), if_pos h2, seg_snoc _ _ _ _ h2]
    · rw [if_neg (by omega), if_neg h2]
theorem tile_neg (l : List H) (a b : Int) (h : a < 0 ∨ b < 0) : tile l a b = none := if_neg fun e => by omega
theorem tile_nil (a b : Int) : tile [] a b = none := if_neg fun e => by
  have hp : 0 < 2 ^ a.toNat := Nat.pow_pos (by decide)
  have : 0 < (b.toNat + 1) * 2 ^ a.toNat := Nat.mul_pos (by omega) hp
  have h2 := e.2.2
  simp only [List.length_nil] at h2
  omega
/-- Below a level the leaf is there, above it is not yet. -/
def tileU (l : List H) (x : H) (lv : Nat) (a b : Int) : Option H := if a ≤ lv then tile (l ++ [x]) a b else tile l a b
theorem tileU_start (l : List H) (x : H) (a b : Int) : tileU l x 0 a b = if a = 0 ∧ b = l.length then some x else tile l a b := by
  unfold tileU
  by_cases h : a < 0 ∨ b < 0
  · rw [tile_neg _ _ _ h, tile_neg _ _ _ h, if_neg (show ¬ (a = 0 ∧ b = (l.length : Int)) by omega)]; split <;> rfl
  · obtain ⟨a', rfl⟩ : ∃ k : Nat, a = k := ⟨a.toNat, by omega⟩
    obtain ⟨b', rfl⟩ : ∃ k : Nat, b = k := ⟨b.toNat, by omega⟩
    by_cases ha : a' = 0
    · subst ha
      rw [if_pos (Int.le_refl _), tile_snoc, Nat.pow_zero, Nat.mul_one]
      by_cases hb : b' = l.length
      · rw [if_pos (by omega), if_pos ⟨rfl, by omega⟩, Nat.mul_one, hb]
        have : seg (l ++ [x]) l.length (l.length + 1) = [x] := by
          unfold seg
          rw [List.take_of_length_le (by simp), List.drop_left]
        rw [this, root_one]
      · rw [if_neg (by omega), if_neg (by omega)]
    · rw [if_neg (by omega), if_neg (by omega)]
theorem tileU_step (l : List H) (x : H) (lv ix : Nat) (hx : (ix + 1) * 2 ^ lv = l.length + 1) (ho : ix % 2 = 1) (a b : Int) :
    tileU l x (lv + 1) a b = if a = (lv : Int) + 1 ∧ b = (ix : Int) / 2 then some (root (seg (l ++ [x]) ((ix - 1) * 2 ^ lv) (l.length + 1))) else tileU l x lv a b := by
  unfold tileU
  have e : (ix / 2 + 1) * 2 ^ (lv + 1) = l.length + 1 := by
    rw [← hx, Nat.pow_succ, Nat.mul_comm (2 ^ lv) 2, ← Nat.mul_assoc]
    congr 1; omega
  have e2 : ix / 2 * 2 ^ (lv + 1) = (ix - 1) * 2 ^ lv := by
    rw [Nat.pow_succ, Nat.mul_comm (2 ^ lv) 2, ← Nat.mul_assoc]
    congr 1; omega
  by_cases h : a < 0 ∨ b < 0
  · rw [tile_neg _ _ _ h, tile_neg _ _ _ h, if_neg (show ¬ (a = (lv : Int) + 1 ∧ b = (ix : Int) / 2) by omega)]
    split <;> split <;> rfl
  · obtain ⟨a', rfl⟩ : ∃ k : Nat, a = k := ⟨a.toNat, by omega⟩
    obtain ⟨b', rfl⟩ : ∃ k : Nat, b = k := ⟨b.toNat, by omega⟩
    by_cases ha : a' = lv + 1
    · subst ha
      rw [if_pos (by omega), if_neg (show ¬ (((lv + 1 : Nat) : Int) ≤ (lv : Int)) by omega), tile_snoc]
      by_cases hb : b' = ix / 2
      · subst hb
        rw [if_pos e, if_pos ⟨by omega, by omega⟩, e2]
      · rw [if_neg (show ¬ (((lv + 1 : Nat) : Int) = (lv : Int) + 1 ∧ (b' : Int) = (ix : Int) / 2) by omega), if_neg]
        intro e3
        have := Nat.eq_of_mul_eq_mul_right (Nat.pow_pos (show 0 < 2 by decide)) (e3.trans e.symm)
        omega
    · rw [if_neg (show ¬ ((a' : Int) = (lv : Int) + 1 ∧ (b' : Int) = (ix : Int) / 2) by omega)]
      by_cases h3 : a' ≤ lv
      · rw [if_pos (by omega), if_pos (by omega)]
      · rw [if_neg (by omega), if_neg (by omega)]
theorem tileU_end (l : List H) (x : H) (lv ix : Nat) (hx : (ix + 1) * 2 ^ lv = l.length + 1) (he : ix % 2 = 0) (a b : Int) : tileU l x lv a b = tile (l ++ [x]) a b := by
  unfold tileU
  by_cases ha : a ≤ lv
  · rw [if_pos ha]
  · rw [if_neg ha]
    by_cases h : a < 0 ∨ b < 0
    · rw [tile_neg _ _ _ h, tile_neg _ _ _ h]
    · obtain ⟨a', rfl⟩ : ∃ k : Nat, a = k := ⟨a.toNat, by omega⟩
      obtain ⟨b', rfl⟩ : ∃ k : Nat, b = k := ⟨b.toNat, by omega⟩
      rw [tile_snoc, if_neg]
      intro e
      obtain ⟨d, rfl⟩ : ∃ d, a' = lv + 1 + d := ⟨a' - lv - 1, by omega⟩
      rw [← hx, show lv + 1 + d = d + 1 + lv by omega, Nat.pow_add, Nat.pow_succ, ← Nat.mul_assoc] at e
      have := Nat.eq_of_mul_eq_mul_right (Nat.pow_pos (show 0 < 2 by decide)) e
      rw [← Nat.mul_assoc] at this
      omega
/-- What stands at the left of the last leaf. -/
theorem tileU_left (l : List H) (x : H) (lv ix : Nat) (hx : (ix + 1) * 2 ^ lv = l.length + 1) (ho : ix % 2 = 1) : tileU l x lv lv ((ix : Int) - 1) = some (root (seg (l ++ [x]) ((ix - 1) * 2 ^ lv) (ix * 2 ^ lv))) := by
  have hp : 0 < 2 ^ lv := Nat.pow_pos (by decide)
  unfold tileU
  rw [if_pos (Int.le_refl _), show (ix : Int) - 1 = ((ix - 1 : Nat) : Int) by omega, tile_nat, if_pos, show ix - 1 + 1 = ix by omega]
  rw [show ix - 1 + 1 = ix by omega, List.length_append, List.length_singleton, ← hx, Nat.succ_mul]
  omega
theorem node_step (l : List H) (x : H) (lv ix : Nat) (hx : (ix + 1) * 2 ^ lv = l.length + 1) (ho : ix % 2 = 1) :
    node (root (seg (l ++ [x]) ((ix - 1) * 2 ^ lv) (ix * 2 ^ lv))) (root (seg (l ++ [x]) (ix * 2 ^ lv) (l.length + 1))) = root (seg (l ++ [x]) ((ix - 1) * 2 ^ lv) (l.length + 1)) := by
  have e1 : (ix - 1) * 2 ^ lv + 2 ^ lv = ix * 2 ^ lv := by rw [← Nat.succ_mul]; congr 1; omega
  have e2 : (ix - 1) * 2 ^ lv + 2 ^ (lv + 1) = l.length + 1 := by rw [Nat.pow_succ, ← hx, Nat.succ_mul, ← e1]; omega
  have := root_block (l ++ [x]) lv ((ix - 1) * 2 ^ lv) (by rw [e2]; simp)
  rw [e1, e2] at this
  exact this.symm
/-- The way down to a full tree: of the leaves from one on. -/
theorem root_whole (l : List H) (s a : Nat) (hd : s % 2 ^ a = 0) (h : s + 2 ^ a ≤ l.length) : tile l a ((s / 2 ^ a : Nat) : Int) = some (root (seg l s (s + 2 ^ a))) := by
  have hp : 0 < 2 ^ a := Nat.pow_pos (by decide)
  have e : s / 2 ^ a * 2 ^ a = s := Nat.div_mul_cancel (Nat.dvd_of_mod_eq_zero hd)
  rw [tile_nat, Nat.succ_mul, e, if_pos h]
theorem root_parts (l : List H) (s t a : Nat) (hs : s + 2 ^ a < t) (h2 : t < s + 2 ^ (a + 1)) (ht : t ≤ l.length) : root (seg l s t) = node (root (seg l s (s + 2 ^ a))) (root (seg l (s + 2 ^ a) t)) := by
  have hp : 0 < 2 ^ a := Nat.pow_pos (by decide)
  have e : 2 ^ (a + 1) = 2 ^ a * 2 := Nat.pow_succ 2 a
  have hl := seg_len l s t ht
  have hk : split (t - s) = 2 ^ a := (split_uniq ⟨a, rfl⟩ (by omega) (by omega)).symm
  rw [root_two _ (by omega), hl, hk, seg_take _ _ _ _ (by omega), seg_drop]
/-- One step of a path. -/
theorem path_seg_l (l : List H) (s t i : Nat) (h2 : s + 2 ≤ t) (ht : t ≤ l.length) (hi : s ≤ i) (h : i < s + split (t - s)) :
    path (seg l s t) (i - s) = path (seg l s (s + split (t - s))) (i - s) ++ [root (seg l (s + split (t - s)) t)] := by
  have hl := seg_len l s t ht
  have hs := split_spec (show 2 ≤ t - s by omega)
  rw [path_left _ _ (by omega) (by rw [hl]; omega), hl, seg_take _ _ _ _ (by omega), seg_drop]
theorem path_seg_r (l : List H) (s t i : Nat) (h2 : s + 2 ≤ t) (ht : t ≤ l.length) (h : ¬ i < s + split (t - s)) :
    path (seg l s t) (i - s) = path (seg l (s + split (t - s)) t) (i - (s + split (t - s))) ++ [root (seg l s (s + split (t - s)))] := by
  have hl := seg_len l s t ht
  have hs := split_spec (show 2 ≤ t - s by omega)
  rw [path_right _ _ (by omega) (by rw [hl]; omega), hl, seg_take _ _ _ _ (by omega), seg_drop, Nat.sub_sub]
theorem sub_seg_l (l : List H) (s t m : Nat) (b : Bool) (hm : s < m) (h1 : m < t) (ht : t ≤ l.length) (h : m ≤ s + split (t - s)) :
    sub (seg l s t) (m - s) b = sub (seg l s (s + split (t - s))) (m - s) b ++ [root (seg l (s + split (t - s)) t)] := by
  have hl := seg_len l s t ht
  have hs := split_spec (show 2 ≤ t - s by omega)
  rw [sub_left _ _ _ (by omega) (by omega) (by rw [hl]; omega), hl, seg_take _ _ _ _ (by omega), seg_drop]
theorem sub_seg_r (l : List H) (s t m : Nat) (b : Bool) (h1 : m < t) (ht : t ≤ l.length) (h : ¬ m ≤ s + split (t - s)) :
    sub (seg l s t) (m - s) b = sub (seg l (s + split (t - s)) t) (m - (s + split (t - s))) false ++ [root (seg l s (s + split (t - s)))] := by
  have hl := seg_len l s t ht
  have hs := split_spec (show 2 ≤ t - s by omega)
  rw [sub_right _ _ _ (by omega) (by rw [hl]; omega), hl, seg_take _ _ _ _ (by omega), seg_drop, Nat.sub_sub]
end Go.Sx
namespace Go.Sx
open Go Go.RowKit
set_option linter.unusedVariables false
set_option linter.unusedSimpArgs false
/-- How many bits are 1. -/
def onesF : Nat → Nat → Nat
  | 0, _ => 0
  | f + 1, n => if n = 0 then 0 else n % 2 + onesF f (n / 2)
def ones (n : Nat) : Nat := onesF n n
theorem onesF_eq : ∀ (f g n : Nat), n ≤ f → n ≤ g → onesF f n = onesF g n := by
  intro f
  induction f with
  | zero =>
    intro g n h1 h2
    obtain rfl : n = 0 := by omega
    cases g <;> simp [onesF]
  | succ f ih =>
    intro g n h1 h2
    by_cases hn : n = 0
    · subst hn; cases g <;> simp [onesF]
    · cases g with
      | zero => omega
      | succ g => rw [onesF, onesF, if_neg hn, if_neg hn, ih g (n / 2) (by omega) (by omega)]
theorem ones_zero : ones 0 = 0 := rfl
theorem ones_step {n : Nat} (h : n ≠ 0) : ones n = n % 2 + ones (n / 2) := by
  obtain ⟨f, rfl⟩ : ∃ f, n = f + 1 := ⟨n - 1, by omega⟩
  unfold ones
  rw [onesF, if_neg h, onesF_eq f ((f + 1) / 2) _ (by omega) (Nat.le_refl _)]
/-- A tree more, of the size of the last one's place: the roots, the smallest tree first. -/
def carry : Nat → List H → H → List H
  | n, [], h => [h]
  | n, h' :: r, h => if n % 2 = 1 then carry (n / 2) r (node h' h) else h :: h' :: r
theorem carry_odd {n : Nat} {h' h : H} {r : List H} (hn : n % 2 = 1) : carry n (h' :: r) h = carry (n / 2) r (node h' h) := by rw [carry, if_pos hn]
theorem carry_even {n : Nat} {h : H} {r : List H} (hn : ¬ n % 2 = 1) : carry n r h = h :: r := by
  cases r with
  | nil => rfl
  | cons x r => rw [carry, if_neg hn]
theorem carry_len : ∀ (f n : Nat) (r : List H) (h : H), n ≤ f → r.length = ones n → (carry n r h).length = ones (n + 1) := by
  intro f
  induction f with
  | zero =>
    intro n r h h1 h2
    obtain rfl : n = 0 := by omega
    obtain rfl : r = [] := List.eq_nil_of_length_eq_zero h2
    rfl
  | succ f ih =>
    intro n r h h1 h2
    by_cases hn : n % 2 = 1
    · rw [ones_step (show n ≠ 0 by omega)] at h2
      match r, h2 with
      | [], h2 => simp at h2; omega
      | x :: r, h2 =>
        rw [carry_odd hn, ih (n / 2) r _ (by omega) (by simp at h2; omega), ones_step (n := n + 1) (by omega), show (n + 1) / 2 = n / 2 + 1 by omega]
        omega
    · rw [carry_even hn, List.length_cons, h2, ones_step (n := n + 1) (by omega), show (n + 1) / 2 = n / 2 by omega]
      by_cases h0 : n = 0
      · subst h0; rfl
      · rw [ones_step h0]; omega
/-- The sizes of the trees, the smallest first: of n trees of size p. -/
def pwF : Nat → Nat → Nat → List Nat
  | 0, _, _ => []
  | f + 1, p, n => if n = 0 then [] else if n % 2 = 1 then p :: pwF f (2 * p) (n / 2) else pwF f (2 * p) (n / 2)
def pw (p n : Nat) : List Nat := pwF n p n
theorem pwF_eq : ∀ (f g p n : Nat), n ≤ f → n ≤ g → pwF f p n = pwF g p n := by
  intro f
  induction f with
  | zero =>
    intro g p n h1 h2
    obtain rfl : n = 0 := by omega
    cases g <;> simp [pwF]
  | succ f ih =>
    intro g p n h1 h2
    by_cases hn : n = 0
    · subst hn; cases g <;> simp [pwF]
    · cases g with
      | zero => omega
      | succ g => rw [pwF, pwF, if_neg hn, if_neg hn, ih g (2 * p) (n / 2) (by omega) (by omega)]
theorem pw_zero (p : Nat) : pw p 0 = [] := rfl
theorem pw_odd {p n : Nat} (h : n % 2 = 1) : pw p n = p :: pw (2 * p) (n / 2) := by
  obtain ⟨f, rfl⟩ : ∃ f, n = f + 1 := ⟨n - 1, by omega⟩
  unfold pw
  rw [pwF, if_neg (by omega), if_pos h, pwF_eq f ((f + 1) / 2) _ _ (by omega) (Nat.le_refl _)]
theorem pw_even {p n : Nat} (h : ¬ n % 2 = 1) : pw p n = pw (2 * p) (n / 2) := by
  by_cases h0 : n = 0
  · subst h0; rfl
  · obtain ⟨f, rfl⟩ : ∃ f, n = f + 1 := ⟨n - 1, by omega⟩
    unfold pw
    rw [pwF, if_neg (by omega), if_neg h, pwF_eq f ((f + 1) / 2) _ _ (by omega) (Nat.le_refl _)]
theorem pw_len : ∀ (f p n : Nat), n ≤ f → (pw p n).length = ones n := by
  intro f
  induction f with
  | zero =>
    intro p n h
    obtain rfl : n = 0 := by omega
    rfl
  | succ f ih =>
    intro p n h
    by_cases h0 : n = 0
    · subst h0; rfl
    · by_cases hn : n % 2 = 1
      · rw [pw_odd hn, List.length_cons, ih _ _ (by omega), ones_step h0]; omega
      · rw [pw_even hn, ih _ _ (by omega), ones_step h0]; omega
theorem pw_scale : ∀ (j p n : Nat), pw p (n * 2 ^ j) = pw (p * 2 ^ j) n := by
  intro j
  induction j with
  | zero => intro p n; rw [Nat.pow_zero, Nat.mul_one, Nat.mul_one]
  | succ j ih =>
    intro p n
    have e : n * 2 ^ (j + 1) = 2 * (n * 2 ^ j) := by rw [Nat.pow_succ, ← Nat.mul_assoc, Nat.mul_comm]
    rw [e, pw_even (by omega), show 2 * (n * 2 ^ j) / 2 = n * 2 ^ j by omega, ih, Nat.pow_succ, show 2 * p * 2 ^ j = p * (2 ^ j * 2) by rw [Nat.mul_comm 2 p, Nat.mul_assoc, Nat.mul_comm 2]]
theorem pw_ge : ∀ (f p n : Nat), n ≤ f → ∀ q ∈ pw p n, p ≤ q := by
  intro f
  induction f with
  | zero =>
    intro p n h q hq
    obtain rfl : n = 0 := by omega
    cases hq
  | succ f ih =>
    intro p n h q hq
    by_cases h0 : n = 0
    · subst h0; cases hq
    · by_cases hn : n % 2 = 1
      · rw [pw_odd hn] at hq
        rcases List.mem_cons.1 hq with rfl | hq
        · exact Nat.le_refl _
        · have := ih _ _ (by omega) q hq; omega
      · rw [pw_even hn] at hq
        have := ih _ _ (by omega) q hq; omega
/-- The document's way: trees with their sizes; two of one size at the end are one. -/
def addT : Nat → H → List (Nat × H) → List (Nat × H)
  | k, h, [] => [(k, h)]
  | k, h, (k', h') :: r => if k' = k then addT (2 * k) (node h' h) r else (k, h) :: (k', h') :: r
theorem addT_carry : ∀ (f p n : Nat) (rs : List H) (h : H), 0 < p → n ≤ f → rs.length = ones n → addT p h ((pw p n).zip rs) = (pw p (n + 1)).zip (carry n rs h) := by
  intro f
  induction f with
  | zero =>
    intro p n rs h hp h1 h2
    obtain rfl : n = 0 := by omega
    obtain rfl : rs = [] := List.eq_nil_of_length_eq_zero h2
    rfl
  | succ f ih =>
    intro p n rs h hp h1 h2
    by_cases hn : n % 2 = 1
    · rw [ones_step (show n ≠ 0 by omega)] at h2
      match rs, h2 with
      | [], h2 => simp at h2; omega
      | x :: rs, h2 =>
        rw [carry_odd hn, pw_odd hn, pw_even (p := p) (n := n + 1) (by omega), show (n + 1) / 2 = n / 2 + 1 by omega, List.zip_cons_cons, addT, if_pos rfl]
        exact ih (2 * p) (n / 2) rs _ (by omega) (by omega) (by simp at h2; omega)
    · rw [carry_even hn, pw_odd (n := n + 1) (by omega), show (n + 1) / 2 = n / 2 by omega, ← pw_even hn, List.zip_cons_cons]
      cases hz : (pw p n).zip rs with
      | nil => rfl
      | cons y r =>
        obtain ⟨k', h'⟩ := y
        have hk : k' ∈ pw p n := (List.of_mem_zip (show (k', h') ∈ (pw p n).zip rs by rw [hz]; exact List.mem_cons_self ..)).1
        rw [pw_even hn] at hk
        have := pw_ge _ _ _ (Nat.le_refl _) k' hk
        rw [addT, if_neg (by omega)]
/-! ### the range of leaves -/
def canF (l : List H) : Nat → Nat → Nat → List H
  | 0, _, _ => []
  | f + 1, j, n => if n = 0 then [] else if n % 2 = 1 then root (seg l ((n - 1) * 2 ^ j) (n * 2 ^ j)) :: canF l f (j + 1) (n / 2) else canF l f (j + 1) (n / 2)
def can (l : List H) (j n : Nat) : List H := canF l n j n
theorem canF_eq (l : List H) : ∀ (f g j n : Nat), n ≤ f → n ≤ g → canF l f j n = canF l g j n := by
  intro f
  induction f with
  | zero =>
    intro g j n h1 h2
    obtain rfl : n = 0 := by omega
    cases g <;> simp [canF]
  | succ f ih =>
    intro g j n h1 h2
    by_cases hn : n = 0
    · subst hn; cases g <;> simp [canF]
    · cases g with
      | zero => omega
      | succ g => rw [canF, canF, if_neg hn, if_neg hn, ih g (j + 1) (n / 2) (by omega) (by omega)]
theorem can_zero (l : List H) (j : Nat) : can l j 0 = [] := rfl
theorem can_odd (l : List H) {j n : Nat} (h : n % 2 = 1) : can l j n = root (seg l ((n - 1) * 2 ^ j) (n * 2 ^ j)) :: can l (j + 1) (n / 2) := by
  obtain ⟨f, rfl⟩ : ∃ f, n = f + 1 := ⟨n - 1, by omega⟩
  unfold can
  rw [canF, if_neg (by omega), if_pos h, canF_eq l f ((f + 1) / 2) _ _ (by omega) (Nat.le_refl _)]
theorem can_even (l : List H) {j n : Nat} (h : ¬ n % 2 = 1) : can l j n = can l (j + 1) (n / 2) := by
  by_cases h0 : n = 0
  · subst h0; rfl
  · obtain ⟨f, rfl⟩ : ∃ f, n = f + 1 := ⟨n - 1, by omega⟩
    unfold can
    rw [canF, if_neg (by omega), if_neg h, canF_eq l f ((f + 1) / 2) _ _ (by omega) (Nat.le_refl _)]
theorem can_len (l : List H) : ∀ (f j n : Nat), n ≤ f → (can l j n).length = ones n := by
  intro f
  induction f with
  | zero =>
    intro j n h
    obtain rfl : n = 0 := by omega
    rfl
  | succ f ih =>
    intro j n h
    by_cases h0 : n = 0
    · subst h0; rfl
    · by_cases hn : n % 2 = 1
      · rw [can_odd l hn, List.length_cons, ih _ _ (by omega), ones_step h0]; omega
      · rw [can_even l hn, ih _ _ (by omega), ones_step h0]; omega
theorem can_scale (l : List H) : ∀ (i j n : Nat), can l j (n * 2 ^ i) = can l (j + i) n := by
  intro i
  induction i with
  | zero => intro j n; rw [Nat.pow_zero, Nat.mul_one, Nat.add_zero]
  | succ i ih =>
    intro j n
    have e : n * 2 ^ (i + 1) = 2 * (n * 2 ^ i) := by rw [Nat.pow_succ, ← Nat.mul_assoc, Nat.mul_comm]
    rw [e, can_even l (by omega), show 2 * (n * 2 ^ i) / 2 = n * 2 ^ i by omega, ih, show j + 1 + i = j + (i + 1) by omega]
theorem can_carry (l : List H) : ∀ (f j n : Nat), n ≤ f → (n + 1) * 2 ^ j ≤ l.length → carry n (can l j n) (root (seg l (n * 2 ^ j) ((n + 1) * 2 ^ j))) = can l j (n + 1) := by
  intro f
  induction f with
  | zero =>
    intro j n h h2
    obtain rfl : n = 0 := by omega
    rw [can_odd l (n := 0 + 1) rfl]
    rfl
  | succ f ih =>
    intro j n h h2
    by_cases hn : n % 2 = 1
    · have e1 : (n - 1) * 2 ^ j = n / 2 * 2 ^ (j + 1) := by
        rw [Nat.pow_succ, Nat.mul_comm (2 ^ j) 2, ← Nat.mul_assoc]; congr 1; omega
      have e2 : (n - 1) * 2 ^ j + 2 ^ j = n * 2 ^ j := by rw [← Nat.succ_mul]; congr 1; omega
      have e3 : (n + 1) * 2 ^ j = n * 2 ^ j + 2 ^ j := Nat.succ_mul _ _
      have e4 : 2 ^ (j + 1) = 2 ^ j * 2 := Nat.pow_succ 2 j
      have e5 : (n / 2 + 1) * 2 ^ (j + 1) = (n + 1) * 2 ^ j := by rw [Nat.succ_mul]; omega
      rw [can_odd l hn, carry_odd hn, can_even l (n := n + 1) (by omega), show (n + 1) / 2 = n / 2 + 1 by omega]
      have hb := root_block l j ((n - 1) * 2 ^ j) (by omega)
      rw [e2, show (n - 1) * 2 ^ j + 2 ^ (j + 1) = (n + 1) * 2 ^ j by omega] at hb
      rw [← hb]
      have := ih (j + 1) (n / 2) (by omega) (by omega)
      rw [e5, ← e1] at this
      exact this
    · rw [carry_even hn, can_odd l (n := n + 1) (by omega), show (n + 1) / 2 = n / 2 by omega, ← can_even l hn]
      rfl
/-- The range of leaves, the smallest tree first. -/
def rng (l : List H) : List H := can l 0 l.length
theorem rng_len (l : List H) : (rng l).length = ones l.length := can_len l _ _ _ (Nat.le_refl _)
theorem can_snoc (l : List H) (x : H) : ∀ (f j n : Nat), n ≤ f → n * 2 ^ j ≤ l.length → can (l ++ [x]) j n = can l j n := by
  intro f
  induction f with
  | zero =>
    intro j n h h2
    obtain rfl : n = 0 := by omega
    rfl
  | succ f ih =>
    intro j n h h2
    have e4 : 2 ^ (j + 1) = 2 ^ j * 2 := Nat.pow_succ 2 j
    have e1 : n / 2 * 2 ^ (j + 1) ≤ n * 2 ^ j := by
      rw [Nat.pow_succ, Nat.mul_comm (2 ^ j) 2, ← Nat.mul_assoc]
      exact Nat.mul_le_mul_right _ (by omega)
    by_cases hn : n % 2 = 1
    · rw [can_odd _ hn, can_odd _ hn, seg_snoc _ _ _ _ h2, ih _ _ (by omega) (by omega)]
    · rw [can_even _ hn, can_even _ hn, ih _ _ (by omega) (by omega)]
theorem rng_snoc (l : List H) (x : H) : carry l.length (rng l) x = rng (l ++ [x]) := by
  have h := can_carry (l ++ [x]) l.length 0 l.length (Nat.le_refl _) (by simp)
  rw [Nat.pow_zero, Nat.mul_one, Nat.mul_one, can_snoc l x _ _ _ (Nat.le_refl _) (by simp)] at h
  have e : seg (l ++ [x]) l.length (l.length + 1) = [x] := by
    unfold seg
    rw [List.take_of_length_le (by simp), List.drop_left]
  rw [e, root_one] at h
  unfold rng
  rw [h, List.length_append]
  rfl
/-- The root of trees side by side, the smallest first. -/
def rootR : List H → H
  | [] => sha []
  | h :: r => r.foldl (fun a x => node x a) h
theorem can_root (l : List H) : ∀ (f j n : Nat), n ≤ f → n * 2 ^ j < l.length → l.length < n * 2 ^ j + 2 ^ j → (can l j n).foldl (fun a x => node x a) (root (seg l (n * 2 ^ j) l.length)) = root l := by
  intro f
  induction f with
  | zero =>
    intro j n h h1 h2
    obtain rfl : n = 0 := by omega
    rw [can_zero, Nat.zero_mul]
    show root (seg l 0 l.length) = root l
    unfold seg
    rw [List.take_length, List.drop_zero]
  | succ f ih =>
    intro j n h h1 h2
    by_cases h0 : n = 0
    · exact ih j n (by omega) h1 h2
    · have e4 : 2 ^ (j + 1) = 2 ^ j * 2 := Nat.pow_succ 2 j
      by_cases hn : n % 2 = 1
      · have e1 : (n - 1) * 2 ^ j = n / 2 * 2 ^ (j + 1) := by
          rw [Nat.pow_succ, Nat.mul_comm (2 ^ j) 2, ← Nat.mul_assoc]; congr 1; omega
        have e2 : (n - 1) * 2 ^ j + 2 ^ j = n * 2 ^ j := by rw [← Nat.succ_mul]; congr 1; omega
        have hb := root_parts l ((n - 1) * 2 ^ j) l.length j (by omega) (by omega) (Nat.le_refl _)
        rw [e2] at hb
        rw [can_odd l hn, List.foldl_cons, ← hb, e1]
        exact ih (j + 1) (n / 2) (by omega) (by omega) (by omega)
      · have e1 : n * 2 ^ j = n / 2 * 2 ^ (j + 1) := by
          rw [Nat.pow_succ, Nat.mul_comm (2 ^ j) 2, ← Nat.mul_assoc]; congr 1; omega
        rw [can_even l hn, e1]
        exact ih (j + 1) (n / 2) (by omega) (by omega) (by omega)
theorem rng_root' (l : List H) : ∀ (f j n : Nat), n ≤ f → 0 < n → n * 2 ^ j = l.length → rootR (can l j n) = root l := by
  intro f
  induction f with
  | zero => intro j n h h1 h2; omega
  | succ f ih =>
    intro j n h h1 h2
    have e4 : 2 ^ (j + 1) = 2 ^ j * 2 := Nat.pow_succ 2 j
    have hp : 0 < 2 ^ j := Nat.pow_pos (by decide)
    by_cases hn : n % 2 = 1
    · have e1 : (n - 1) * 2 ^ j = n / 2 * 2 ^ (j + 1) := by
        rw [Nat.pow_succ, Nat.mul_comm (2 ^ j) 2, ← Nat.mul_assoc]; congr 1; omega
      have e2 : (n - 1) * 2 ^ j + 2 ^ j = n * 2 ^ j := by rw [← Nat.succ_mul]; congr 1; omega
      rw [can_odd l hn, h2, e1]
      exact can_root l _ (j + 1) (n / 2) (Nat.le_refl _) (by omega) (by omega)
    · have e1 : n * 2 ^ j = n / 2 * 2 ^ (j + 1) := by
        rw [Nat.pow_succ, Nat.mul_comm (2 ^ j) 2, ← Nat.mul_assoc]; congr 1; omega
      rw [can_even l hn]
      exact ih (j + 1) (n / 2) (by omega) (by omega) (by omega)
theorem rng_root (l : List H) : rootR (rng l) = root l := by
  by_cases h : l.length = 0
  · obtain rfl := List.eq_nil_of_length_eq_zero h
    rfl
  · exact rng_root' l l.length 0 l.length (Nat.le_refl _) (by omega) (by rw [Nat.pow_zero, Nat.mul_one])
/-! ### parts -/
def stpF : Nat → Nat → Nat → Nat
  | 0, _, _ => 1
  | f + 1, a, n => if a % 2 = 0 ∧ 2 ≤ n then 2 * stpF f (a / 2) (n / 2) else 1
/-- How many leaves the next part has. -/
def stp (a n : Nat) : Nat := stpF n a n
theorem stpF_eq : ∀ (f g a n : Nat), n ≤ f + 1 → n ≤ g + 1 → stpF f a n = stpF g a n := by
  intro f
  induction f with
  | zero =>
    intro g a n h1 h2
    cases g with
    | zero => rfl
    | succ g => rw [stpF, stpF, if_neg (by omega)]
  | succ f ih =>
    intro g a n h1 h2
    cases g with
    | zero => rw [stpF, stpF, if_neg (by omega)]
    | succ g =>
      rw [stpF, stpF]
      by_cases h : a % 2 = 0 ∧ 2 ≤ n
      · rw [if_pos h, if_pos h, ih g (a / 2) (n / 2) (by omega) (by omega)]
      · rw [if_neg h, if_neg h]
theorem stp_two {a n : Nat} (h : a % 2 = 0 ∧ 2 ≤ n) : stp a n = 2 * stp (a / 2) (n / 2) := by
  obtain ⟨f, rfl⟩ : ∃ f, n = f + 1 := ⟨n - 1, by omega⟩
  unfold stp
  rw [stpF, if_pos h, stpF_eq f ((f + 1) / 2) _ _ (by omega) (by omega)]
theorem stp_one {a n : Nat} (h : ¬ (a % 2 = 0 ∧ 2 ≤ n)) : stp a n = 1 := by
  unfold stp
  cases n with
  | zero => rfl
  | succ f => rw [stpF, if_neg h]
theorem stp_spec : ∀ (f a n : Nat), n ≤ f → 1 ≤ n → ∃ j, stp a n = 2 ^ j ∧ 2 ^ j ≤ n ∧ a % 2 ^ j = 0 ∧ ¬ (2 * 2 ^ j ≤ n ∧ a % (2 * 2 ^ j) = 0) := by
  intro f
  induction f with
  | zero => intro a n h1 h2; omega
  | succ f ih =>
    intro a n h1 h2
    by_cases h : a % 2 = 0 ∧ 2 ≤ n
    · obtain ⟨j, e, h3, h4, h5⟩ := ih (a / 2) (n / 2) (by omega) (by omega)
      have e4 : 2 ^ (j + 1) = 2 * 2 ^ j := by rw [Nat.pow_succ, Nat.mul_comm]
      have hm : ∀ q, a % (2 * q) = 2 * (a / 2 % q) := fun q => by
        have e := Nat.mul_mod_mul_left 2 (a / 2) q
        rw [show 2 * (a / 2) = a by omega] at e
        exact e
      refine ⟨j + 1, by rw [stp_two h, e, e4], by omega, by rw [e4, hm, h4], ?_⟩
      rw [e4, hm]
      intro h6
      exact h5 ⟨by omega, by omega⟩
    · refine ⟨0, by rw [stp_one h], by simpa using h2, by simp [Nat.mod_one], ?_⟩
      simp only [Nat.pow_zero, Nat.mul_one]
      omega
theorem stp_uniq {a n i j : Nat} (h1 : 2 ^ i ≤ n ∧ a % 2 ^ i = 0 ∧ ¬ (2 * 2 ^ i ≤ n ∧ a % (2 * 2 ^ i) = 0)) (h2 : 2 ^ j ≤ n ∧ a % 2 ^ j = 0 ∧ ¬ (2 * 2 ^ j ≤ n ∧ a % (2 * 2 ^ j) = 0)) : i = j := by
  have key : ∀ i j : Nat, 2 ^ j ≤ n → a % 2 ^ j = 0 → ¬ (2 * 2 ^ i ≤ n ∧ a % (2 * 2 ^ i) = 0) → j ≤ i := by
    intro i j h3 h4 h5
    rcases Nat.lt_or_ge i j with h | h
    · exfalso
      obtain ⟨d, rfl⟩ : ∃ d, j = i + 1 + d := ⟨j - i - 1, by omega⟩
      have e : 2 ^ (i + 1 + d) = 2 * 2 ^ i * 2 ^ d := by rw [Nat.pow_add, Nat.pow_succ, Nat.mul_comm (2 ^ i) 2]
      rw [e] at h3 h4
      refine h5 ⟨Nat.le_trans (Nat.le_mul_of_pos_right _ (Nat.pow_pos (by decide))) h3, ?_⟩
      exact Nat.mod_eq_zero_of_dvd (Nat.dvd_trans (Nat.dvd_mul_right _ _) (Nat.dvd_of_mod_eq_zero h4))
    · exact h
  exact Nat.le_antisymm (key j i h1.1 h1.2.1 h2.2.2) (key i j h2.1 h2.2.1 h1.2.2)
theorem stp_pos (a n : Nat) (h : 1 ≤ n) : 0 < stp a n ∧ stp a n ≤ n := by
  obtain ⟨j, e, h3, _⟩ := stp_spec n a n (Nat.le_refl _) h
  rw [e]; exact ⟨Nat.pow_pos (by decide), h3⟩
/-- The parts' sizes of n leaves from one on. -/
def ptsF : Nat → Nat → Nat → List Nat
  | 0, _, _ => []
  | f + 1, a, n => if n = 0 then [] else stp a n :: ptsF f (a + stp a n) (n - stp a n)
def pts (a n : Nat) : List Nat := ptsF n a n
theorem ptsF_eq : ∀ (f g a n : Nat), n ≤ f → n ≤ g → ptsF f a n = ptsF g a n := by
  intro f
  induction f with
  | zero =>
    intro g a n h1 h2
    obtain rfl : n = 0 := by omega
    cases g <;> simp [ptsF]
  | succ f ih =>
    intro g a n h1 h2
    by_cases hn : n = 0
    · subst hn; cases g <;> simp [ptsF]
    · have := stp_pos a n (by omega)
      cases g with
      | zero => omega
      | succ g => rw [ptsF, ptsF, if_neg hn, if_neg hn, ih g _ (n - stp a n) (by omega) (by omega)]
theorem pts_zero (a : Nat) : pts a 0 = [] := rfl
theorem pts_step {a n : Nat} (h : n ≠ 0) : pts a n = stp a n :: pts (a + stp a n) (n - stp a n) := by
  have := stp_pos a n (by omega)
  obtain ⟨f, rfl⟩ : ∃ f, n = f + 1 := ⟨n - 1, by omega⟩
  unfold pts
  rw [ptsF, if_neg h, ptsF_eq f _ _ _ (by omega) (Nat.le_refl _)]
/-- The roots of parts. -/
def cutR : List Nat → List H → List H
  | [], _ => []
  | k :: ks, l => root (l.take k) :: cutR ks (l.drop k)
theorem cutR_len (ks : List Nat) (l : List H) : (cutR ks l).length = ks.length := by
  induction ks generalizing l with
  | nil => rfl
  | cons k ks ih => simp [cutR, ih]
/-- Trees put behind a range: its size, its roots, the smallest first. -/
def putAll : List Nat → List H → Nat × List H → Nat × List H
  | k :: ks, h :: p, (s, rs) => putAll ks p (s + k, carry (s / k) rs h)
  | _, _, r => r
/-- What a range becomes with leaves more. -/
def ext (s : Nat) (rs : List H) : List H → Nat × List H
  | [] => (s, rs)
  | x :: l => ext (s + 1) (carry s rs x) l
theorem ext_rng : ∀ (m l : List H), ext l.length (rng l) m = ((l ++ m).length, rng (l ++ m)) := by
  intro m
  induction m with
  | nil => intro l; rw [List.append_nil]; rfl
  | cons x m ih =>
    intro l
    have := ih (l ++ [x])
    rw [List.length_append, List.length_singleton, ← rng_snoc, List.append_assoc] at this
    exact this
theorem ext_len (s : Nat) (rs : List H) : ∀ (l : List H), (ext s rs l).1 = s + l.length := by
  intro l
  induction l generalizing s rs with
  | nil => rfl
  | cons x l ih => rw [ext, ih, List.length_cons]; omega
theorem ext_ones : ∀ (l : List H) (s : Nat) (rs : List H), rs.length = ones s → (ext s rs l).2.length = ones (s + l.length) := by
  intro l
  induction l with
  | nil => intro s rs h; exact h
  | cons x l ih =>
    intro s rs h
    rw [ext, ih (s + 1) _ (carry_len s s rs x (Nat.le_refl _) h), List.length_cons]
    congr 1; omega
theorem ext_snoc (s : Nat) (rs : List H) (x : H) : ∀ (l : List H), ext s rs (l ++ [x]) = ((ext s rs l).1 + 1, carry (ext s rs l).1 (ext s rs l).2 x) := by
  intro l
  induction l generalizing s rs with
  | nil => rfl
  | cons y l ih => exact ih _ _
/-- Parts behind a range of leaves. -/
theorem put_rng (l : List H) : ∀ (f a n : Nat), n ≤ f → a + n ≤ l.length → putAll (pts a n) (cutR (pts a n) (l.drop a)) (a, can l 0 a) = (a + n, can l 0 (a + n)) := by
  intro f
  induction f with
  | zero =>
    intro a n h1 h2
    obtain rfl : n = 0 := by omega
    rfl
  | succ f ih =>
    intro a n h1 h2
    by_cases hn : n = 0
    · subst hn; rfl
    · obtain ⟨j, e, h3, h4, _⟩ := stp_spec n a n (Nat.le_refl _) (by omega)
      have hp : 0 < 2 ^ j := Nat.pow_pos (by decide)
      have ea : a / 2 ^ j * 2 ^ j = a := Nat.div_mul_cancel (Nat.dvd_of_mod_eq_zero h4)
      have eb : (a / 2 ^ j + 1) * 2 ^ j = a + 2 ^ j := by rw [Nat.succ_mul, ea]
      rw [pts_step hn, cutR, putAll, e, List.drop_drop]
      have hc := can_carry l (a / 2 ^ j) j (a / 2 ^ j) (Nat.le_refl _) (by omega)
      have hs := can_scale l j 0 (a / 2 ^ j)
      have hs2 := can_scale l j 0 (a / 2 ^ j + 1)
      rw [ea, Nat.zero_add] at hs
      rw [eb, Nat.zero_add] at hs2
      rw [ea, eb, ← hs, ← hs2] at hc
      have hseg : (l.drop a).take (2 ^ j) = seg l a (a + 2 ^ j) := by
        unfold seg
        rw [List.take_drop]
      rw [hseg, hc, ih (a + 2 ^ j) (n - 2 ^ j) (by omega) (by omega), show a + 2 ^ j + (n - 2 ^ j) = a + n by omega]
end Go.Sx
namespace Go.Sx
def oc1 (n : Nat) : Nat := (n / 2 ^ 1 &&& 6148914691236517205) + (n &&& 6148914691236517205)
def oc2 (n : Nat) : Nat := (n / 2 ^ 2 &&& 3689348814741910323) + (n &&& 3689348814741910323)
def oc3 (n : Nat) : Nat := (n / 2 ^ 4 + n) &&& 1085102592571150095
def oc4 (n : Nat) : Nat := n + n / 2 ^ 8
def oc5 (n : Nat) : Nat := n + n / 2 ^ 16
def oc6 (n : Nat) : Nat := n + n / 2 ^ 32
def oc (n : Nat) : Nat := oc6 (oc5 (oc4 (oc3 (oc2 (oc1 n)))))
theorem oc_all : ((List.range 4097).all fun n => Nat.beq (oc n &&& 127) (ones n)) = true := by kernel_rfl
theorem oc_ones (n : Nat) (h : n ≤ 4096) : oc n &&& 127 = ones n := Nat.eq_of_beq_eq_true (List.all_eq_true.1 oc_all n (List.mem_range.2 (by omega)))
theorem and_le (a b : Nat) : a &&& b ≤ a := Nat.and_le_left
theorem oc_le (n : Nat) (h : n ≤ 4096) : oc1 n ≤ 10000 ∧ oc2 (oc1 n) ≤ 20000 ∧ oc3 (oc2 (oc1 n)) ≤ 40000 ∧ oc4 (oc3 (oc2 (oc1 n))) ≤ 80000 ∧ oc5 (oc4 (oc3 (oc2 (oc1 n)))) ≤ 160000 ∧ oc n ≤ 320000 := by
  have h1 : oc1 n ≤ 10000 := by
    have := and_le (n / 2 ^ 1) 6148914691236517205
    have := and_le n 6148914691236517205
    unfold oc1; omega
  have h2 : oc2 (oc1 n) ≤ 20000 := by
    generalize oc1 n = m at h1
    have := and_le (m / 2 ^ 2) 3689348814741910323
    have := and_le m 3689348814741910323
    unfold oc2; omega
  have h3 : oc3 (oc2 (oc1 n)) ≤ 40000 := by
    generalize oc2 (oc1 n) = m at h2
    have := and_le (m / 2 ^ 4 + m) 1085102592571150095
    unfold oc3; omega
  have h4 : oc4 (oc3 (oc2 (oc1 n))) ≤ 80000 := by
    generalize oc3 (oc2 (oc1 n)) = m at h3
    unfold oc4; omega
  have h5 : oc5 (oc4 (oc3 (oc2 (oc1 n)))) ≤ 160000 := by
    generalize oc4 (oc3 (oc2 (oc1 n))) = m at h4
    unfold oc5; omega
  refine ⟨h1, h2, h3, h4, h5, ?_⟩
  unfold oc
  generalize oc5 (oc4 (oc3 (oc2 (oc1 n)))) = m at h5
  unfold oc6; omega
end Go.Sx
