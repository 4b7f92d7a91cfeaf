/- Speculum proofs: SHA-256 in plain words. No program in sight. -/
import Derived.Test.YtjkfeonbioccmaaDoorSxRow
namespace Go.Sx
open Go Go.RowKit
set_option linter.unusedVariables false
set_option linter.unusedSimpArgs false

def rotr (x : UInt32) (k : Nat) : UInt32 := x <<< UInt32.ofNat (32 - k) ||| x >>> UInt32.ofNat k
def sg0 (x : UInt32) : UInt32 := rotr x 7 ^^^ rotr x 18 ^^^ x >>> UInt32.ofNat 3
def sg1 (x : UInt32) : UInt32 := rotr x 17 ^^^ rotr x 19 ^^^ x >>> UInt32.ofNat 10
def w4 (a b c d : UInt8) : UInt32 := a.toUInt32 <<< UInt32.ofNat 24 + b.toUInt32 <<< UInt32.ofNat 16 + c.toUInt32 <<< UInt32.ofNat 8 + d.toUInt32
def getW (m : List UInt8) (i : Nat) : UInt32 := w4 (m.getD (4 * i) 0) (m.getD (4 * i + 1) 0) (m.getD (4 * i + 2) 0) (m.getD (4 * i + 3) 0)
def wv (m : List UInt8) (l : List UInt32) (n : Nat) : UInt32 := if n < 16 then getW m n else l.getD (n - 16) 0 + l.getD (n - 7) 0 + sg0 (l.getD (n - 15) 0) + sg1 (l.getD (n - 2) 0)
/-- The first n words of the schedule. -/
def wl (m : List UInt8) : Nat → List UInt32
  | 0 => []
  | n + 1 => wl m n ++ [wv m (wl m n) n]
theorem length_wl (m : List UInt8) (n : Nat) : (wl m n).length = n := by
  induction n with
  | zero => rfl
  | succ n ih => simp [wl, ih]
structure V8 where
  a : UInt32
  b : UInt32
  c : UInt32
  d : UInt32
  e : UInt32
  f : UInt32
  g : UInt32
  h : UInt32
def V8.l (v : V8) : List UInt32 := [v.a, v.b, v.c, v.d, v.e, v.f, v.g, v.h]
/-- The cells of eight words. -/
def vc (v : V8) : List Value := [u32 v.a, u32 v.b, u32 v.c, u32 v.d, u32 v.e, u32 v.f, u32 v.g, u32 v.h]
def vv (v : V8) : Value := .agg (vc v).toArray
theorem vc_map (v : V8) : vc v = v.l.map u32 := rfl
def tT (v : V8) (k w : UInt32) : UInt32 := v.h + (rotr v.e 6 ^^^ rotr v.e 11 ^^^ rotr v.e 25) + (v.e &&& v.f ^^^ ~~~v.e &&& v.g) + k + w
def tU (v : V8) : UInt32 := (rotr v.a 2 ^^^ rotr v.a 13 ^^^ rotr v.a 22) + (v.a &&& v.b ^^^ v.a &&& v.c ^^^ v.b &&& v.c)
def rd (v : V8) (k w : UInt32) : V8 := ⟨tT v k w + tU v, v.a, v.b, v.c, v.d + tT v k w, v.e, v.f, v.g⟩
def kk : List UInt32 := [
    0x428a2f98, 0x71374491, 0xb5c0fbcf, 0xe9b5dba5, 0x3956c25b, 0x59f111f1, 0x923f82a4, 0xab1c5ed5,
    0xd807aa98, 0x12835b01, 0x243185be, 0x550c7dc3, 0x72be5d74, 0x80deb1fe, 0x9bdc06a7, 0xc19bf174,
    0xe49b69c1, 0xefbe4786, 0x0fc19dc6, 0x240ca1cc, 0x2de92c6f, 0x4a7484aa, 0x5cb0a9dc, 0x76f988da,
    0x983e5152, 0xa831c66d, 0xb00327c8, 0xbf597fc7, 0xc6e00bf3, 0xd5a79147, 0x06ca6351, 0x14292967,
    0x27b70a85, 0x2e1b2138, 0x4d2c6dfc, 0x53380d13, 0x650a7354, 0x766a0abb, 0x81c2c92e, 0x92722c85,
    0xa2bfe8a1, 0xa81a664b, 0xc24b8b70, 0xc76c51a3, 0xd192e819, 0xd6990624, 0xf40e3585, 0x106aa070,
    0x19a4c116, 0x1e376c08, 0x2748774c, 0x34b0bcb5, 0x391c0cb3, 0x4ed8aa4a, 0x5b9cca4f, 0x682e6ff3,
    0x748f82ee, 0x78a5636f, 0x84c87814, 0x8cc70208, 0x90befffa, 0xa4506ceb, 0xbef9a3f7, 0xc67178f2]
def v0 : V8 := ⟨0x6a09e667, 0xbb67ae85, 0x3c6ef372, 0xa54ff53a, 0x510e527f, 0x9b05688c, 0x1f83d9ab, 0x5be0cd19⟩
def rs (m : List UInt8) (v : V8) : Nat → V8
  | 0 => v
  | n + 1 => rd (rs m v n) (kk.getD n 0) ((wl m 64).getD n 0)
def V8.add (w v : V8) : V8 := ⟨v.a + w.a, v.b + w.b, v.c + w.c, v.d + w.d, v.e + w.e, v.f + w.f, v.g + w.g, v.h + w.h⟩
def comp (v : V8) (m : List UInt8) : V8 := (rs m v 64).add v
def bls : Nat → V8 → List UInt8 → V8
  | 0, v, _ => v
  | n + 1, v, m => bls n (comp v (m.take 64)) (m.drop 64)
/-- The low k bytes of a number, the highest one first. -/
def putB (n : UInt64) : Nat → List UInt8
  | 0 => []
  | k + 1 => (n >>> UInt64.ofNat (8 * k)).toUInt8 :: putB n k
theorem length_putB (n : UInt64) (k : Nat) : (putB n k).length = k := by
  induction k with
  | zero => rfl
  | succ k ih => simp [putB, ih]
def padN (n : Nat) : Nat := (119 - n % 64) % 64
def padded (s : List UInt8) : List UInt8 := s ++ [0x80] ++ List.replicate (padN s.length) 0 ++ putB (UInt64.ofNat s.length * 8) 8
theorem length_padded (s : List UInt8) : (padded s).length = s.length + 9 + padN s.length := by
  simp [padded, length_putB]; omega
theorem padded_64 (s : List UInt8) : (padded s).length % 64 = 0 := by
  rw [length_padded]
  unfold padN
  omega
def out (v : V8) : List UInt8 := v.l.flatMap fun x => putB x.toUInt64 4
theorem length_out (v : V8) : (out v).length = 32 := by simp [out, V8.l, length_putB]
def sha (s : List UInt8) : H := ⟨out (bls ((padded s).length / 64) v0 (padded s)), length_out _⟩

theorem u32s1 (l : List UInt32) : ∀ u ∈ l.map u32, u.oneCell' = true := by
  intro u hu
  obtain ⟨x, _, rfl⟩ := List.mem_map.1 hu
  rfl
theorem one_vc (v : V8) : ∀ u ∈ vc v, u.oneCell' = true := u32s1 v.l
/-! ### how code puts it -/
def mixl (w v : V8) (i : Nat) : List UInt32 := (w.add v).l.take i ++ w.l.drop i
theorem mixl_get (w v : V8) (i : Nat) (h : i < 8) : ((mixl w v i).map u32)[i]? = some (u32 (w.l.getD i 0)) := by
  match i, h with
  | 0, _ => rfl
  | 1, _ => rfl
  | 2, _ => rfl
  | 3, _ => rfl
  | 4, _ => rfl
  | 5, _ => rfl
  | 6, _ => rfl
  | 7, _ => rfl
theorem l_get (v : V8) (i : Nat) (h : i < 8) : (vc v)[i]? = some (u32 (v.l.getD i 0)) := by
  match i, h with
  | 0, _ => rfl
  | 1, _ => rfl
  | 2, _ => rfl
  | 3, _ => rfl
  | 4, _ => rfl
  | 5, _ => rfl
  | 6, _ => rfl
  | 7, _ => rfl
theorem mixl_set (w v : V8) (i : Nat) (h : i < 8) : ((mixl w v i).map u32).set i (u32 (w.l.getD i 0 + v.l.getD i 0)) = (mixl w v (i + 1)).map u32 := by
  rw [UInt32.add_comm]
  match i, h with
  | 0, _ => rfl
  | 1, _ => rfl
  | 2, _ => rfl
  | 3, _ => rfl
  | 4, _ => rfl
  | 5, _ => rfl
  | 6, _ => rfl
  | 7, _ => rfl
theorem mixl_len (w v : V8) (i : Nat) (h : i ≤ 8) : (mixl w v i).length = 8 := by
  simp [mixl, V8.l]; omega
theorem kk_get (i : Nat) (h : i < 64) : (kk.map u32)[i]? = some (u32 (kk.getD i 0)) := by
  have hl : i < kk.length := h
  rw [List.getElem?_map, List.getElem?_eq_getElem hl, List.getD_eq_getElem?_getD, List.getElem?_eq_getElem hl]; rfl

def getB (l : List UInt8) : UInt64 := l.foldl (fun n b => n <<< UInt64.ofNat 8 + b.toUInt64) 0
theorem getB_append (l : List UInt8) (b : UInt8) : getB (l ++ [b]) = getB l <<< UInt64.ofNat 8 + b.toUInt64 := by simp [getB]
theorem getB_succ (l : List UInt8) {i : Nat} (h : i < l.length) : getB (l.take (i + 1)) = getB (l.take i) <<< UInt64.ofNat 8 + (l.getD i 0).toUInt64 := by
  rw [List.take_add_one, List.getElem?_eq_getElem h, Option.toList_some, getB_append, List.getD_eq_getElem?_getD, List.getElem?_eq_getElem h]; rfl
theorem getB4 (a b c d : UInt8) : (getB [a, b, c, d]).toUInt32 = w4 a b c d := by
  apply UInt32.toNat_inj.1
  have ha := a.toNat_lt
  have hb := b.toNat_lt
  have hc := c.toNat_lt
  have hd := d.toNat_lt
  simp only [getB, List.foldl_cons, List.foldl_nil, w4, UInt64.toNat_toUInt32, UInt64.toNat_add, UInt64.toNat_shiftLeft, UInt32.toNat_add, UInt32.toNat_shiftLeft, UInt8.toNat_toUInt64, UInt8.toNat_toUInt32, UInt64.toNat_ofNat', UInt32.toNat_ofNat', Nat.shiftLeft_eq]
  simp only [show 8 % 2 ^ 64 % 64 = 8 by decide, show 24 % 2 ^ 32 % 32 = 24 by decide, show 16 % 2 ^ 32 % 32 = 16 by decide, show 8 % 2 ^ 32 % 32 = 8 by decide, show (0 : UInt64).toNat = 0 by rfl]
  omega
theorem cut4 (m : List UInt8) (i : Nat) (h : 4 * i + 4 ≤ m.length) : (m.take (4 * i + 4)).drop (4 * i) = [m.getD (4 * i) 0, m.getD (4 * i + 1) 0, m.getD (4 * i + 2) 0, m.getD (4 * i + 3) 0] := by
  apply List.ext_getElem?
  intro j
  rw [List.getElem?_drop, List.getElem?_take]
  match j with
  | 0 => rw [if_pos (by omega)]; simp [List.getElem?_eq_getElem (show 4 * i < m.length by omega)]
  | 1 => rw [if_pos (by omega)]; simp [List.getElem?_eq_getElem (show 4 * i + 1 < m.length by omega)]
  | 2 => rw [if_pos (by omega)]; simp [List.getElem?_eq_getElem (show 4 * i + 2 < m.length by omega)]
  | 3 => rw [if_pos (by omega)]; simp [List.getElem?_eq_getElem (show 4 * i + 3 < m.length by omega)]
  | j + 4 => rw [if_neg (by omega)]; simp
theorem getW_cut (m : List UInt8) (i : Nat) (h : 4 * i + 4 ≤ m.length) : (getB ((m.take (4 * i + 4)).drop (4 * i))).toUInt32 = getW m i := by
  rw [cut4 m i h, getB4]; rfl
theorem rotr_alt (x : UInt32) (k : Nat) : x >>> UInt32.ofNat k ||| x <<< UInt32.ofNat (32 - k) = rotr x k := UInt32.or_comm _ _
theorem wl_take (m : List UInt8) (n k : Nat) : (wl m (n + k)).take n = wl m n := by
  induction k with
  | zero => rw [List.take_of_length_le (by rw [length_wl]; exact Nat.le_refl _)]; rfl
  | succ k ih =>
    show (wl m (n + k) ++ [_]).take n = _
    rw [List.take_append_of_le_length (by rw [length_wl]; omega), ih]
/-- One word more, put at its place. -/
theorem wl_set (m : List UInt8) (n : Nat) (r : List UInt32) (h : r ≠ []) : ((wl m n ++ r).map u32).set n (u32 (wv m (wl m n) n)) = (wl m (n + 1) ++ r.tail).map u32 := by
  cases r with
  | nil => exact absurd rfl h
  | cons x r =>
    have hl := length_wl m n
    rw [List.map_append, List.set_append_right _ _ (by simp [hl]), List.length_map, hl, Nat.sub_self, wl, List.tail_cons]
    simp
theorem wl_get (m : List UInt8) (n : Nat) (r : List UInt32) (i : Nat) (h : i < n) : ((wl m n ++ r).map u32)[i]? = some (u32 ((wl m n).getD i 0)) := by
  have hl := length_wl m n
  rw [List.map_append, List.getElem?_append_left (by simp [hl, h]), List.getElem?_map]
  simp [List.getElem?_eq_getElem (show i < (wl m n).length by omega)]
theorem wl_getm (m : List UInt8) (n i : Nat) (h : i < n) : ((wl m n).map u32)[i]? = some (u32 ((wl m n).getD i 0)) := by
  have := wl_get m n [] i h
  rwa [List.append_nil] at this
theorem putB_tail (n : UInt64) (k : Nat) : putB n (k + 1) = (n >>> UInt64.ofNat (8 * k)).toUInt8 :: putB n k := rfl
theorem put_spl (n : UInt64) (k i : Nat) (h : i < k) : spl ((List.replicate (k - i) 0 ++ putB n i).map u8) (k - 1 - i) [u8 (n >>> UInt64.ofNat (8 * i)).toUInt8] = (List.replicate (k - (i + 1)) 0 ++ putB n (i + 1)).map u8 := by
  obtain ⟨m, rfl⟩ : ∃ m, k = i + 1 + m := ⟨k - (i + 1), by omega⟩
  rw [show i + 1 + m - i = m + 1 by omega, show i + 1 + m - 1 - i = m by omega, show i + 1 + m - (i + 1) = m by omega, List.replicate_succ', putB_tail]
  simp only [spl, List.map_append, List.map_cons, List.map_nil, List.append_assoc, List.length_singleton]
  rw [List.take_append_of_le_length (by simp), List.take_of_length_le (by simp), List.drop_append, List.drop_of_length_le (by simp)]
  simp
theorem shr_shr (n : UInt64) (i : Nat) (h : 8 * i + 8 < 64) : n >>> UInt64.ofNat (8 * i) >>> UInt64.ofNat 8 = n >>> UInt64.ofNat (8 * (i + 1)) := by
  apply UInt64.toNat_inj.1
  simp only [UInt64.toNat_shiftRight, UInt64.toNat_ofNat']
  rw [show 8 * i % 2 ^ 64 % 64 = 8 * i by omega, show 8 % 2 ^ 64 % 64 = 8 by decide, show 8 * (i + 1) % 2 ^ 64 % 64 = 8 * i + 8 by omega, Nat.shiftRight_add]
theorem out_step (v : V8) (i : Nat) (h : i < 8) : spl (((out v).take (4 * i) ++ List.replicate (32 - 4 * i) 0).map u8) (4 * i) (((putB (v.l.getD i 0).toUInt64 4).take 4).map u8) = ((out v).take (4 * (i + 1)) ++ List.replicate (32 - 4 * (i + 1)) 0).map u8 := by
  match i, h with
  | 0, _ => rfl
  | 1, _ => rfl
  | 2, _ => rfl
  | 3, _ => rfl
  | 4, _ => rfl
  | 5, _ => rfl
  | 6, _ => rfl
  | 7, _ => rfl
theorem bls_step (v : V8) (t : List UInt8) (h : 64 ≤ t.length) : bls (t.length / 64) v t = bls ((t.drop 64).length / 64) (comp v (t.take 64)) (t.drop 64) := by
  obtain ⟨k, hk⟩ : ∃ k, t.length / 64 = k + 1 := ⟨t.length / 64 - 1, by omega⟩
  have : (t.drop 64).length / 64 = k := by rw [List.length_drop]; omega
  rw [hk, this]; rfl
/-- What the globals hold. -/
def glS (g0 g1 : Nat) (w : World) : Prop := At w ⟨g0, 0, none⟩ (vc v0) ∧ At w ⟨g1, 0, none⟩ (kk.map u32)
theorem wv_alt (m : List UInt8) (l : List UInt32) (n : Nat) (h : 16 ≤ n) : l.getD (n - 16) 0 + (rotr (l.getD (n - 15) 0) 7 ^^^ rotr (l.getD (n - 15) 0) 18 ^^^ l.getD (n - 15) 0 >>> UInt32.ofNat 3) + l.getD (n - 7) 0 + (rotr (l.getD (n - 2) 0) 17 ^^^ rotr (l.getD (n - 2) 0) 19 ^^^ l.getD (n - 2) 0 >>> UInt32.ofNat 10) = wv m l n := by
  rw [wv, if_neg (by omega)]
  rw [UInt32.add_assoc (l.getD (n - 16) 0), UInt32.add_comm (_ ^^^ _ ^^^ _) (l.getD (n - 7) 0), ← UInt32.add_assoc (l.getD (n - 16) 0)]
  rfl
theorem getW_p (p : List UInt8) (a i : Nat) (h : i < 16) : getW ((p.drop a).take 64) i = w4 (p.getD (a + 4 * i) 0) (p.getD (a + 4 * i + 1) 0) (p.getD (a + 4 * i + 2) 0) (p.getD (a + 4 * i + 3) 0) := by
  have key : ∀ j, j < 64 → ((p.drop a).take 64).getD j 0 = p.getD (a + j) 0 := fun j hj => by
    rw [List.getD_eq_getElem?_getD, List.getD_eq_getElem?_getD, List.getElem?_take, if_pos hj, List.getElem?_drop]
  rw [getW, key _ (by omega), key _ (by omega), key _ (by omega), key _ (by omega)]
  rfl
theorem fillK : Instr.fill (fun i => some (i * 1, 1)) (List.replicate 64 (u32 0)).toArray (((kk.map u32).zipIdx 0).map fun p => (p.2, p.1)) = some (kk.map u32).toArray :=
  fill_all (kk.map u32) 0 [] (List.replicate 64 (u32 0)) (by intro v hv; obtain ⟨x, _, rfl⟩ := List.mem_map.1 hv; rfl) rfl rfl
/-- The bytes of a sum, one by one. -/
theorem out_get (v : V8) (i : Nat) (h : i < 32) : (out v)[i]? = some ((v.l.getD (i / 4) 0) >>> UInt32.ofNat (24 - 8 * (i % 4))).toUInt8 := by
  have key : ∀ (x : UInt32) (k : Nat), k < 4 → (x.toUInt64 >>> UInt64.ofNat (8 * k)).toUInt8 = (x >>> UInt32.ofNat (8 * k)).toUInt8 := fun x k hk => by
    apply UInt8.toNat_inj.1
    simp only [UInt64.toNat_toUInt8, UInt32.toNat_toUInt8, UInt64.toNat_shiftRight, UInt32.toNat_shiftRight, UInt32.toNat_toUInt64, UInt64.toNat_ofNat', UInt32.toNat_ofNat']
    rw [show 8 * k % 2 ^ 64 % 64 = 8 * k by omega, show 8 * k % 2 ^ 32 % 32 = 8 * k by omega]
  have hput : ∀ x : UInt32, putB x.toUInt64 4 = [(x >>> UInt32.ofNat 24).toUInt8, (x >>> UInt32.ofNat 16).toUInt8, (x >>> UInt32.ofNat 8).toUInt8, (x >>> UInt32.ofNat 0).toUInt8] := fun x => by
    rw [putB, putB, putB, putB, putB, key x 3 (by decide), key x 2 (by decide), key x 1 (by decide), key x 0 (by decide)]
  simp only [out, V8.l, List.flatMap_cons, List.flatMap_nil, hput]
  match i, h with
  | 0, _ => rfl
  | 1, _ => rfl
  | 2, _ => rfl
  | 3, _ => rfl
  | 4, _ => rfl
  | 5, _ => rfl
  | 6, _ => rfl
  | 7, _ => rfl
  | 8, _ => rfl
  | 9, _ => rfl
  | 10, _ => rfl
  | 11, _ => rfl
  | 12, _ => rfl
  | 13, _ => rfl
  | 14, _ => rfl
  | 15, _ => rfl
  | 16, _ => rfl
  | 17, _ => rfl
  | 18, _ => rfl
  | 19, _ => rfl
  | 20, _ => rfl
  | 21, _ => rfl
  | 22, _ => rfl
  | 23, _ => rfl
  | 24, _ => rfl
  | 25, _ => rfl
  | 26, _ => rfl
  | 27, _ => rfl
  | 28, _ => rfl
  | 29, _ => rfl
  | 30, _ => rfl
  | 31, _ => rfl
  | k + 32, h => exact absurd h (by omega)
theorem take_set_cells (l : List UInt8) (n i : Nat) (b : UInt8) (hl : l.length = n) (hi : i < n) (hb : l[i]? = some b) : ((l.take i ++ List.replicate (n - i) 0).map u8).set i (u8 b) = (l.take (i + 1) ++ List.replicate (n - (i + 1)) 0).map u8 := by
  have h1 : (l.take i).length = i := by rw [List.length_take]; omega
  obtain ⟨k, hk⟩ : ∃ k, n - i = k + 1 := ⟨n - i - 1, by omega⟩
  rw [hk, show n - (i + 1) = k by omega, List.take_add_one, hb, List.replicate_succ, List.map_append, List.set_append_right _ _ (by rw [List.length_map, h1]; exact Nat.le_refl _), List.length_map, h1, Nat.sub_self]
  simp
end Go.Sx
