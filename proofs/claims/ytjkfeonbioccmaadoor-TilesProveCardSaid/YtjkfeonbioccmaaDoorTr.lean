/- Speculum proofs: trees in plain words: leaves, nodes, roots, splits. No program in sight. -/
import Derived.Test.YtjkfeonbioccmaaDoorSha
namespace Go.Sx
open Go Go.RowKit
set_option linter.unusedVariables false
set_option linter.unusedSimpArgs false

def leaf (s : List UInt8) : H := sha (0 :: s)
def node (a b : H) : H := sha (1 :: (a.b ++ b.b))
/-- The greatest power of two below n. -/
def split (n : Nat) : Nat := if n < 2 then 0 else 2 ^ Nat.log2 (n - 1)
theorem split_small {n : Nat} (h : n < 2) : split n = 0 := if_pos h
theorem split_spec {n : Nat} (h : 2 ≤ n) : 0 < split n ∧ split n < n ∧ n ≤ 2 * split n := by
  have h1 : split n = 2 ^ Nat.log2 (n - 1) := if_neg (by omega)
  have h2 : 2 ^ Nat.log2 (n - 1) ≤ n - 1 := Nat.log2_self_le (by omega)
  have h3 : n - 1 < 2 ^ (Nat.log2 (n - 1) + 1) := Nat.lt_log2_self
  rw [Nat.pow_succ] at h3
  rw [h1]
  refine ⟨Nat.pow_pos (by decide), by omega, by omega⟩
theorem pow_uniq {i j n : Nat} (h1 : 2 ^ i < n) (h2 : n ≤ 2 * 2 ^ i) (h3 : 2 ^ j < n) (h4 : n ≤ 2 * 2 ^ j) : i = j := by
  have key : ∀ i j, 2 ^ i < n → n ≤ 2 * 2 ^ j → i ≤ j := fun i j a b => by
    have h5 : 2 ^ i < 2 ^ (j + 1) := by rw [Nat.pow_succ]; omega
    have := (Nat.pow_lt_pow_iff_right (show 1 < 2 by decide)).1 h5
    omega
  exact Nat.le_antisymm (key i j h1 h4) (key j i h3 h2)
theorem split_uniq {n k : Nat} (hp : ∃ j, k = 2 ^ j) (h1 : k < n) (h2 : n ≤ 2 * k) : k = split n := by
  obtain ⟨j, rfl⟩ := hp
  have h0 : 0 < 2 ^ j := Nat.pow_pos (by decide)
  have hs := split_spec (show 2 ≤ n by omega)
  have h3 : split n = 2 ^ Nat.log2 (n - 1) := if_neg (by omega)
  rw [h3] at hs ⊢
  rw [pow_uniq h1 h2 hs.2.1 hs.2.2]
theorem split_pow {n : Nat} (h : 2 ≤ n) : ∃ j, split n = 2 ^ j := ⟨_, if_neg (by omega)⟩

def rootF : Nat → List H → H
  | 0, l => match l with
    | [] => sha []
    | x :: _ => x
  | f + 1, l => match l with
    | [] => sha []
    | [x] => x
    | _ => node (rootF f (l.take (split l.length))) (rootF f (l.drop (split l.length)))
def root (l : List H) : H := rootF l.length l
theorem root_nil : root [] = sha [] := rfl
theorem root_one (x : H) : root [x] = x := rfl
theorem rootF_step (f : Nat) (l : List H) (h : 2 ≤ l.length) : rootF (f + 1) l = node (rootF f (l.take (split l.length))) (rootF f (l.drop (split l.length))) := by
  match l, h with
  | x :: y :: r, _ => rfl
theorem rootF_eq : ∀ (f g : Nat) (l : List H), l.length ≤ f + 1 → l.length ≤ g + 1 → rootF f l = rootF g l := by
  intro f
  induction f with
  | zero =>
    intro g l hf hg
    match l, hf with
    | [], _ => cases g <;> rfl
    | [x], _ => cases g <;> rfl
  | succ f ih =>
    intro g l hf hg
    cases g with
    | zero =>
      match l, hg with
      | [], _ => rfl
      | [x], _ => rfl
    | succ g =>
      rcases Nat.lt_or_ge l.length 2 with h | h
      · match l, h with
        | [], _ => rfl
        | [x], _ => rfl
      · have hs := split_spec h
        rw [rootF_step f l h, rootF_step g l h, ih g _ (by rw [List.length_take]; omega) (by rw [List.length_take]; omega), ih g _ (by rw [List.length_drop]; omega) (by rw [List.length_drop]; omega)]
theorem root_two (l : List H) (h : 2 ≤ l.length) : root l = node (root (l.take (split l.length))) (root (l.drop (split l.length))) := by
  have hs := split_spec h
  obtain ⟨f, hf⟩ : ∃ f, l.length = f + 1 := ⟨l.length - 1, by omega⟩
  unfold root
  rw [hf, rootF_step f l h, ← hf, rootF_eq f (l.take (split l.length)).length _ (by rw [List.length_take]; omega) (by omega), rootF_eq f (l.drop (split l.length)).length _ (by rw [List.length_drop]; omega) (by omega)]

theorem bytes_take (l : List UInt8) {i : Nat} (h : i < l.length) : (l.take i).map u8 ++ [u8 (l.getD i 0)] = (l.take (i + 1)).map u8 := by
  rw [List.take_add_one, List.getElem?_eq_getElem h, List.getD_eq_getElem?_getD, List.getElem?_eq_getElem h, List.map_append]
  rfl
theorem bytes_get (l : List UInt8) {i : Nat} (h : i < l.length) : (l.map u8)[i]? = some (u8 (l.getD i 0)) := by
  have := get_bytes h
  rwa [Nat.mul_one] at this
/-- The leaves that the statements make. -/
def someH (seed : UInt8) (i : Nat) : H := ⟨[seed, UInt8.ofNat i, UInt8.ofNat (i / 256), 1] ++ List.replicate 28 0, rfl⟩
def someL (n : Nat) (seed : UInt8) : List H := (List.range n).map (someH seed)
theorem someL_succ (n : Nat) (seed : UInt8) : someL (n + 1) seed = someL n seed ++ [someH seed n] := by
  simp [someL, List.range_succ]
theorem length_someL (n : Nat) (seed : UInt8) : (someL n seed).length = n := by simp [someL]
theorem fillH (a b c d : UInt8) : Instr.fill (fun i => some (i * 1, 1)) (hc H.zero).toArray [(0, u8 a), (1, u8 b), (2, u8 c), (3, u8 d)] = some (hc ⟨[a, b, c, d] ++ List.replicate 28 0, rfl⟩).toArray := by
  rw [fill_one (vs := [u8 a]) (off := 0) rfl rfl (Nat.le_of_ble_eq_true rfl), fill_one (vs := [u8 b]) (off := 1) rfl rfl (Nat.le_of_ble_eq_true rfl), fill_one (vs := [u8 c]) (off := 2) rfl rfl (Nat.le_of_ble_eq_true rfl), fill_one (vs := [u8 d]) (off := 3) rfl rfl (Nat.le_of_ble_eq_true rfl), Instr.fill]
  rfl
/-! ### slices of hashes -/
theorem Sl.htake {w : World} {A : Option Addr} {l : List H} (h : Sl w A (hcs l)) (j : Nat) : Sl w A (hcs (l.take j)) :=
  h.take (by
    rw [length_hcs, hcs_take, List.length_take]
    congr 1
    rcases Nat.le_total j l.length with h1 | h1
    · rw [Nat.min_eq_left h1]
    · rw [Nat.min_eq_right h1, List.take_of_length_le (Nat.le_refl _), List.take_of_length_le h1])
theorem Sl.hdrop {w : World} {A : Option Addr} {l : List H} (h : Sl w A (hcs l)) (j cap : Nat) (hc : l.length ≤ cap) (hj : j ≤ l.length) : Sl w (cutA A cap j 32) (hcs (l.drop j)) :=
  h.cut (n := l.length) (length_hcs l) hc hj (by rw [hcs_drop, length_hcs, ← length_hcs, List.take_of_length_le (Nat.le_refl _)])
section
variable {c : Cx} {tm : Env} {C : List Chunk} {F : World → Prop} {o : Oper} {x y z : Operand} {t t' e : TypeId}
theorem hcs_ne {l : List H} {j : Nat} (h : j < l.length) : hcs l ≠ [] := by
  intro h0
  have := congrArg List.length h0
  rw [length_hcs, List.length_nil] at this
  omega
theorem y_ito8 {k : IntKind} {a : Int} (n : Nat) (ho : o.op = .convert t t' x) (hs : (c.P.underlying t).isSome = true) (hd : c.P.underlying t' = some (.int .u8)) (hx : ev tm x = some (.int k a)) (hn : a = n) : Yl c tm C F o (u8 (UInt8.ofNat n)) :=
  y_conv ho hs hd hx (by subst hn; rw [IntKind.wrap_u8, UInt8.toNat_ofNat']; omega)
theorem cell_box {w : World} {g off : Nat} {t : TypeId} {cs : List Value} {v : Value} (h : (Chunk.box g t cs).sat w) (hv : cs[off]? = some v) : w.cell? ⟨g, off, none⟩ = some v := by
  have hh : w.heap[g]? = some (.cells cs.toArray t (0, 0)) := h
  rw [cell_of_row w g off _ t _ hh]
  simpa using hv
theorem y_funcE {fn : Fn} {fs cs : Array Operand} {vs : List Value} (ho : o.op = .makeFunc fn fs cs) (hf : fs = #[]) (hx : evs tm cs.toList = some vs) : Yl c tm C F o (.func fn #[] vs.toArray) :=
  y_func ho hf fun a ha => by
    apply Array.ext'
    simpa using ha.evs hx
theorem take_drop_take (l : List H) (a b c : Nat) (h : a + b ≤ c) : ((l.take c).drop a).take b = (l.take (a + b)).drop a := by
  rw [List.take_drop, List.take_take, Nat.min_eq_left h]
/-- The address of a hash in a slice; the hash itself. -/
theorem y_hidx {A : Option Addr} {n cap : Nat} {k : IntKind} {a : Int} {l : List H} (j : Nat) (ho : o.op = .indexAddr t x y) (ht : c.P.underlying t = some (.slice e)) (hz : szO c.P e = some 32) (hx : ev tm x = some (.slice A n cap)) (hy : ev tm y = some (.int k a)) (hj : a = j)
    (hn : l.length = n) (h : j < n) (hA : ∀ w, St c w C F → Sl w A (hcs l)) : Yl c tm C F o (.pointer (some ((gA A).add (j * 32)))) :=
  y_idxN j ho ht hz hx hy hj h fun w hs => (hA w hs).some_ (hcs_ne (l := l) (j := j) (by omega))
theorem y_hld {A : Option Addr} {j : Nat} {l : List H} (h : H) (ho : o.op = .load t x) (hg : aggO c.P t = some true) (hs : szO c.P t = some 32) (hx : ev tm x = some (.pointer (some ((gA A).add (j * 32))))) (hj : l[j]? = some h) (hA : ∀ w, St c w C F → Sl w A (hcs l)) : Yl c tm C F o (hv h) :=
  y_lslA ho hg (by rw [hcl]; exact hs) hx hA (by rw [hcl]; exact hcs_get l j h hj) (by intro h0; have := congrArg List.length h0; rw [hcl] at this; cases this)
end
end Go.Sx
