/- Speculum proofs: the hashes of all full trees of leaves, in plain words: what a leaf more changes, what is told of any first leaves. -/
import Derived.Test.YtjkfeonbioccmaaDoorPp
namespace Go.Sx
open Go Go.RowKit
set_option linter.unusedVariables false
set_option linter.unusedSimpArgs false
/-- Leaves from one up to another one. -/
def seg (l : List H) (a b : Nat) : List H := (l.take b).drop a
theorem seg_len (l : List H) (a b : Nat) (h : b ≤ l.length) : (seg l a b).length = b - a := by unfold seg; rw [List.length_drop, List.length_take]; omega
theorem seg_take (l : List H) (a b k : Nat) (h : a + k ≤ b) : (seg l a b).take k = seg l a (a + k) := by
  unfold seg
  rw [List.take_drop, List.take_take, Nat.min_eq_left h]
theorem seg_drop (l : List H) (a b k : Nat) : (seg l a b).drop k = seg l (a + k) b := by
  unfold seg
  rw [List.drop_drop]
theorem seg_snoc (l : List H) (x : H) (a b : Nat) (h : b ≤ l.length) : seg (l ++ [x]) a b = seg l a b := by
  unfold seg
  rw [List.take_append_of_le_length h]
/-- The root of the full tree of a level and an index. -/
def tile (l : List H) (a b : Int) : Option H := if 0 ≤ a ∧ 0 ≤ b ∧ (b.toNat + 1) * 2 ^ a.toNat ≤ l.length then some (root (seg l (b.toNat * 2 ^ a.toNat) ((b.toNat + 1) * 2 ^ a.toNat))) else none
theorem tile_nat (l : List H) (a b : Nat) : tile l a b = if (b + 1) * 2 ^ a ≤ l.length then some (root (seg l (b * 2 ^ a) ((b + 1) * 2 ^ a))) else none := by
  unfold tile
  rw [Int.toNat_natCast, Int.toNat_natCast]
  by_cases h : (b + 1) * 2 ^ a ≤ l.length
  · rw [if_pos h, if_pos ⟨by omega, by omega, h⟩]
  · rw [if_neg h, if_neg (fun e => h e.2.2)]
theorem split_two (a : Nat) : split (2 ^ (a + 1)) = 2 ^ a := by
  have hp : 0 < 2 ^ a := Nat.pow_pos (by decide)
  have e : 2 ^ (a + 1) = 2 ^ a * 2 := Nat.pow_succ 2 a
  exact (split_uniq ⟨a, rfl⟩ (by omega) (by omega)).symm
theorem root_block (l : List H) (a s : Nat) (h : s + 2 ^ (a + 1) ≤ l.length) : root (seg l s (s + 2 ^ (a + 1))) = node (root (seg l s (s + 2 ^ a))) (root (seg l (s + 2 ^ a) (s + 2 ^ (a + 1)))) := by
  have hp : 0 < 2 ^ a := Nat.pow_pos (by decide)
  have e : 2 ^ (a + 1) = 2 ^ a * 2 := Nat.pow_succ 2 a
  have hl := seg_len l s (s + 2 ^ (a + 1)) h
  rw [root_two _ (by omega), hl, show s + 2 ^ (a + 1) - s = 2 ^ (a + 1) by omega, split_two, seg_take _ _ _ _ (by omega), seg_drop]
/-- The tree that a leaf more makes whole. -/
theorem tile_snoc (l : List H) (x : H) (a b : Nat) : tile (l ++ [x]) a b = if (b + 1) * 2 ^ a = l.length + 1 then some (root (seg (l ++ [x]) (b * 2 ^ a) (l.length + 1))) else tile l a b := by
  rw [tile_nat, tile_nat, List.length_append, List.length_singleton]
  by_cases h : (b + 1) * 2 ^ a = l.length + 1
  · rw [if_pos (by omega), if_pos h, h]
  · rw [if_neg h]
    by_cases h2 : (b + 1) * 2 ^ a ≤ l.length
    · rw [if_pos (by omega), if_pos h2, seg_snoc _ _ _ _ h2]
    · rw [if_neg (by omega), if_neg h2]
theorem tile_neg (l : List H) (a b : Int) (h : a < 0 ∨ b < 0) : tile l a b = none := if_neg fun e => by omega
theorem tile_nil (a b : Int) : tile [] a b = none := if_neg fun e => by
  have hp : 0 < 2 ^ a.toNat := Nat.pow_pos (by decide)
  have : 0 < (b.toNat + 1) * 2 ^ a.toNat := Nat.mul_pos (by omega) hp
  have h2 := e.2.2
  simp only [List.length_nil] at h2
  omega
/-- Below a level the leaf is there, above it is not yet. -/
def tileU (l : List H) (x : H) (lv : Nat) (a b : Int) : Option H := if a ≤ lv then tile (l ++ [x]) a b else tile l a b
theorem tileU_start (l : List H) (x : H) (a b : Int) : tileU l x 0 a b = if a = 0 ∧ b = l.length then some x else tile l a b := by
  unfold tileU
  by_cases h : a < 0 ∨ b < 0
  · rw [tile_neg _ _ _ h, tile_neg _ _ _ h, if_neg (show ¬ (a = 0 ∧ b = (l.length : Int)) by omega)]; split <;> rfl
  · obtain ⟨a', rfl⟩ : ∃ k : Nat, a = k := ⟨a.toNat, by omega⟩
    obtain ⟨b', rfl⟩ : ∃ k : Nat, b = k := ⟨b.toNat, by omega⟩
    by_cases ha : a' = 0
    · subst ha
      rw [if_pos (Int.le_refl _), tile_snoc, Nat.pow_zero, Nat.mul_one]
      by_cases hb : b' = l.length
      · rw [if_pos (by omega), if_pos ⟨rfl, by omega⟩, Nat.mul_one, hb]
        have : seg (l ++ [x]) l.length (l.length + 1) = [x] := by
          unfold seg
          rw [List.take_of_length_le (by simp), List.drop_left]
        rw [this, root_one]
      · rw [if_neg (by omega), if_neg (by omega)]
    · rw [if_neg (by omega), if_neg (by omega)]
theorem tileU_step (l : List H) (x : H) (lv ix : Nat) (hx : (ix + 1) * 2 ^ lv = l.length + 1) (ho : ix % 2 = 1) (a b : Int) :
    tileU l x (lv + 1) a b = if a = (lv : Int) + 1 ∧ b = (ix : Int) / 2 then some (root (seg (l ++ [x]) ((ix - 1) * 2 ^ lv) (l.length + 1))) else tileU l x lv a b := by
  unfold tileU
  have e : (ix / 2 + 1) * 2 ^ (lv + 1) = l.length + 1 := by
    rw [← hx, Nat.pow_succ, Nat.mul_comm (2 ^ lv) 2, ← Nat.mul_assoc]
    congr 1; omega
  have e2 : ix / 2 * 2 ^ (lv + 1) = (ix - 1) * 2 ^ lv := by
    rw [Nat.pow_succ, Nat.mul_comm (2 ^ lv) 2, ← Nat.mul_assoc]
    congr 1; omega
  by_cases h : a < 0 ∨ b < 0
  · rw [tile_neg _ _ _ h, tile_neg _ _ _ h, if_neg (show ¬ (a = (lv : Int) + 1 ∧ b = (ix : Int) / 2) by omega)]
    split <;> split <;> rfl
  · obtain ⟨a', rfl⟩ : ∃ k : Nat, a = k := ⟨a.toNat, by omega⟩
    obtain ⟨b', rfl⟩ : ∃ k : Nat, b = k := ⟨b.toNat, by omega⟩
    by_cases ha : a' = lv + 1
    · subst ha
      rw [if_pos (by omega), if_neg (show ¬ (((lv + 1 : Nat) : Int) ≤ (lv : Int)) by omega), tile_snoc]
      by_cases hb : b' = ix / 2
      · subst hb
        rw [if_pos e, if_pos ⟨by omega, by omega⟩, e2]
      · rw [if_neg (show ¬ (((lv + 1 : Nat) : Int) = (lv : Int) + 1 ∧ (b' : Int) = (ix : Int) / 2) by omega), if_neg]
        intro e3
        have := Nat.eq_of_mul_eq_mul_right (Nat.pow_pos (show 0 < 2 by decide)) (e3.trans e.symm)
        omega
    · rw [if_neg (show ¬ ((a' : Int) = (lv : Int) + 1 ∧ (b' : Int) = (ix : Int) / 2) by omega)]
      by_cases h3 : a' ≤ lv
      · rw [if_pos (by omega), if_pos (by omega)]
      · rw [if_neg (by omega), if_neg (by omega)]
theorem tileU_end (l : List H) (x : H) (lv ix : Nat) (hx : (ix + 1) * 2 ^ lv = l.length + 1) (he : ix % 2 = 0) (a b : Int) : tileU l x lv a b = tile (l ++ [x]) a b := by
  unfold tileU
  by_cases ha : a ≤ lv
  · rw [if_pos ha]
  · rw [if_neg ha]
    by_cases h : a < 0 ∨ b < 0
    · rw [tile_neg _ _ _ h, tile_neg _ _ _ h]
    · obtain ⟨a', rfl⟩ : ∃ k : Nat, a = k := ⟨a.toNat, by omega⟩
      obtain ⟨b', rfl⟩ : ∃ k : Nat, b = k := ⟨b.toNat, by omega⟩
      rw [tile_snoc, if_neg]
      intro e
      obtain ⟨d, rfl⟩ : ∃ d, a' = lv + 1 + d := ⟨a' - lv - 1, by omega⟩
      rw [← hx, show lv + 1 + d = d + 1 + lv by omega, Nat.pow_add, Nat.pow_succ, ← Nat.mul_assoc] at e
      have := Nat.eq_of_mul_eq_mul_right (Nat.pow_pos (show 0 < 2 by decide)) e
      rw [← Nat.mul_assoc] at this
      omega
/-- What stands at the left of the last leaf. -/
theorem tileU_left (l : List H) (x : H) (lv ix : Nat) (hx : (ix + 1) * 2 ^ lv = l.length + 1) (ho : ix % 2 = 1) : tileU l x lv lv ((ix : Int) - 1) = some (root (seg (l ++ [x]) ((ix - 1) * 2 ^ lv) (ix * 2 ^ lv))) := by
  have hp : 0 < 2 ^ lv := Nat.pow_pos (by decide)
  unfold tileU
  rw [if_pos (Int.le_refl _), show (ix : Int) - 1 = ((ix - 1 : Nat) : Int) by omega, tile_nat, if_pos, show ix - 1 + 1 = ix by omega]
  rw [show ix - 1 + 1 = ix by omega, List.length_append, List.length_singleton, ← hx, Nat.succ_mul]
  omega
theorem node_step (l : List H) (x : H) (lv ix : Nat) (hx : (ix + 1) * 2 ^ lv = l.length + 1) (ho : ix % 2 = 1) :
    node (root (seg (l ++ [x]) ((ix - 1) * 2 ^ lv) (ix * 2 ^ lv))) (root (seg (l ++ [x]) (ix * 2 ^ lv) (l.length + 1))) = root (seg (l ++ [x]) ((ix - 1) * 2 ^ lv) (l.length + 1)) := by
  have e1 : (ix - 1) * 2 ^ lv + 2 ^ lv = ix * 2 ^ lv := by rw [← Nat.succ_mul]; congr 1; omega
  have e2 : (ix - 1) * 2 ^ lv + 2 ^ (lv + 1) = l.length + 1 := by rw [Nat.pow_succ, ← hx, Nat.succ_mul, ← e1]; omega
  have := root_block (l ++ [x]) lv ((ix - 1) * 2 ^ lv) (by rw [e2]; simp)
  rw [e1, e2] at this
  exact this.symm
/-- The way down to a full tree: of the leaves from one on. -/
theorem root_whole (l : List H) (s a : Nat) (hd : s % 2 ^ a = 0) (h : s + 2 ^ a ≤ l.length) : tile l a ((s / 2 ^ a : Nat) : Int) = some (root (seg l s (s + 2 ^ a))) := by
  have hp : 0 < 2 ^ a := Nat.pow_pos (by decide)
  have e : s / 2 ^ a * 2 ^ a = s := Nat.div_mul_cancel (Nat.dvd_of_mod_eq_zero hd)
  rw [tile_nat, Nat.succ_mul, e, if_pos h]
theorem root_parts (l : List H) (s t a : Nat) (hs : s + 2 ^ a < t) (h2 : t < s + 2 ^ (a + 1)) (ht : t ≤ l.length) : root (seg l s t) = node (root (seg l s (s + 2 ^ a))) (root (seg l (s + 2 ^ a) t)) := by
  have hp : 0 < 2 ^ a := Nat.pow_pos (by decide)
  have e : 2 ^ (a + 1) = 2 ^ a * 2 := Nat.pow_succ 2 a
  have hl := seg_len l s t ht
  have hk : split (t - s) = 2 ^ a := (split_uniq ⟨a, rfl⟩ (by omega) (by omega)).symm
  rw [root_two _ (by omega), hl, hk, seg_take _ _ _ _ (by omega), seg_drop]
/-- One step of a path. -/
theorem path_seg_l (l : List H) (s t i : Nat) (h2 : s + 2 ≤ t) (ht : t ≤ l.length) (hi : s ≤ i) (h : i < s + split (t - s)) :
    path (seg l s t) (i - s) = path (seg l s (s + split (t - s))) (i - s) ++ [root (seg l (s + split (t - s)) t)] := by
  have hl := seg_len l s t ht
  have hs := split_spec (show 2 ≤ t - s by omega)
  rw [path_left _ _ (by omega) (by rw [hl]; omega), hl, seg_take _ _ _ _ (by omega), seg_drop]
theorem path_seg_r (l : List H) (s t i : Nat) (h2 : s + 2 ≤ t) (ht : t ≤ l.length) (h : ¬ i < s + split (t - s)) :
    path (seg l s t) (i - s) = path (seg l (s + split (t - s)) t) (i - (s + split (t - s))) ++ [root (seg l s (s + split (t - s)))] := by
  have hl := seg_len l s t ht
  have hs := split_spec (show 2 ≤ t - s by omega)
  rw [path_right _ _ (by omega) (by rw [hl]; omega), hl, seg_take _ _ _ _ (by omega), seg_drop, Nat.sub_sub]
theorem sub_seg_l (l : List H) (s t m : Nat) (b : Bool) (hm : s < m) (h1 : m < t) (ht : t ≤ l.length) (h : m ≤ s + split (t - s)) :
    sub (seg l s t) (m - s) b = sub (seg l s (s + split (t - s))) (m - s) b ++ [root (seg l (s + split (t - s)) t)] := by
  have hl := seg_len l s t ht
  have hs := split_spec (show 2 ≤ t - s by omega)
  rw [sub_left _ _ _ (by omega) (by omega) (by rw [hl]; omega), hl, seg_take _ _ _ _ (by omega), seg_drop]
theorem sub_seg_r (l : List H) (s t m : Nat) (b : Bool) (h1 : m < t) (ht : t ≤ l.length) (h : ¬ m ≤ s + split (t - s)) :
    sub (seg l s t) (m - s) b = sub (seg l (s + split (t - s)) t) (m - (s + split (t - s))) false ++ [root (seg l s (s + split (t - s)))] := by
  have hl := seg_len l s t ht
  have hs := split_spec (show 2 ≤ t - s by omega)
  rw [sub_right _ _ _ (by omega) (by rw [hl]; omega), hl, seg_take _ _ _ _ (by omega), seg_drop, Nat.sub_sub]
end Go.Sx
