/- Speculum proofs: contracts: the document's ranges: trees side by side. -/
/- Speculum proofs: contracts: the document's trees joined, their range; how many leaves each part has. -/
/- Speculum proofs: contracts: the range of trees; how many leaves each part has. -/
/- Speculum proofs: contracts: the document's range of leaves, a range that is extended. -/
import Derived.Test.YtjkfeonbioccmaaDoorMl
import Derived.Test.YtjkfeonbioccmaaDoorMf
namespace Go.Proofs.YtjkfeonbioccmaaDoor
open Go Go.Sx Go.RowKit
set_option linter.unusedVariables false
set_option linter.unusedSimpArgs false
set_option maxRecDepth 100000
set_option maxHeartbeats 4000000
variable {Gl F : World → Prop}
/-- A list of trees, of one's own. -/
abbrev OwnT (l : List (Nat × H)) : Option Addr × Nat → List Chunk := fun i => [.row (.slice i.1 l.length i.2) 180 33 l.length (tcs l)]
/-- The trees of a range, those of bits from e on, the largest first. -/
def opn (s : Nat) (rs : List H) (e : Nat) : List (Nat × H) := ((pw (2 ^ e) (s / 2 ^ e)).zip (rs.drop (rs.length - ones (s / 2 ^ e)))).reverse
theorem opn_len (s : Nat) (rs : List H) (e : Nat) (h : ones (s / 2 ^ e) ≤ rs.length) : (opn s rs e).length = ones (s / 2 ^ e) := by
  unfold opn
  rw [List.length_reverse, List.length_zip, pw_len _ _ _ (Nat.le_refl _), List.length_drop]; omega
theorem opn_zero (s : Nat) (rs : List H) (h : rs.length = ones s) : opn s rs 0 = ((pw 1 s).zip rs).reverse := by
  unfold opn
  rw [Nat.pow_zero, Nat.div_one, h, Nat.sub_self, List.drop_zero]
theorem opn_top (s : Nat) (rs : List H) (h : s ≤ 4096) : opn s rs 13 = [] := by
  unfold opn
  rw [show s / 2 ^ 13 = 0 by have : (2 : Nat) ^ 13 = 8192 := rfl; omega, pw_zero]; rfl
theorem div_half (s e : Nat) : s / 2 ^ e / 2 = s / 2 ^ (e + 1) := by rw [Nat.div_div_eq_div_mul, ← Nat.pow_succ]
theorem opn_even (s : Nat) (rs : List H) (e : Nat) (h : ¬ s / 2 ^ e % 2 = 1) : opn s rs e = opn s rs (e + 1) := by
  unfold opn
  have h1 : ones (s / 2 ^ e) = ones (s / 2 ^ (e + 1)) := by
    by_cases h0 : s / 2 ^ e = 0
    · rw [← div_half, h0]
    · rw [ones_step h0, div_half]; omega
  rw [pw_even h, div_half, h1, Nat.pow_succ, Nat.mul_comm]
theorem opn_odd (s : Nat) (rs : List H) (e : Nat) (y : H) (h : s / 2 ^ e % 2 = 1) (hl : ones (s / 2 ^ e) ≤ rs.length) (hy : rs.reverse[ones (s / 2 ^ (e + 1))]? = some y) : opn s rs e = opn s rs (e + 1) ++ [(2 ^ e, y)] := by
  have h1 : ones (s / 2 ^ e) = ones (s / 2 ^ (e + 1)) + 1 := by rw [ones_step (by omega), div_half]; omega
  have hlt : rs.length - ones (s / 2 ^ e) < rs.length := by omega
  have hd : rs.drop (rs.length - ones (s / 2 ^ e)) = y :: rs.drop (rs.length - ones (s / 2 ^ (e + 1))) := by
    rw [List.drop_eq_getElem_cons hlt]
    rw [List.getElem?_reverse (by omega)] at hy
    rw [show rs.length - ones (s / 2 ^ e) + 1 = rs.length - ones (s / 2 ^ (e + 1)) by omega]
    congr 1
    rw [show rs.length - 1 - ones (s / 2 ^ (e + 1)) = rs.length - ones (s / 2 ^ e) by omega, List.getElem?_eq_getElem hlt] at hy
    exact Option.some.inj hy
  unfold opn
  rw [hd, pw_odd h, div_half, List.zip_cons_cons, List.reverse_cons, Nat.pow_succ, Nat.mul_comm (2 ^ e) 2]
theorem open_fn (s : Nat) (rs : List H) (A : Option Addr) (n k : Nat) (hn : rs.length = n) (ho : n = ones s) (hS : s ≤ 4096) (hA : ∀ w, F w → Sl w A (hcs rs.reverse)) :
    FnSpec Tryd.prog Gl 132 [.agg #[.int .i64 (s : Int), .slice A n k]] [] F (ι := Option Addr × Nat) (fun q => (opn s rs 0).length ≤ q.2) (fun q => .slice q.1 (opn s rs 0).length q.2) (OwnT (opn s rs 0)) (fun _ _ => True) := by
  have hle : ∀ e, ones (s / 2 ^ e) ≤ n := by
    intro e
    induction e with
    | zero => rw [Nat.pow_zero, Nat.div_one]; omega
    | succ e ih =>
      by_cases h0 : s / 2 ^ e = 0
      · rw [← div_half, h0]; exact Nat.zero_le _
      · rw [ones_step h0, div_half] at ih; omega
  have hb := ones_le s hS
  refine FnSpec.intro Tryd.func132 rfl Tryd.ntmps132 rfl fun X M w => ?_
  refine JC.seq fun K1 hK1 => ?_
  refine JC.region ?_
  refine J.box rfl rfl rfl rfl rfl rfl fun g1 => ?_
  refine J.yl (y_assign rfl rfl) rfl rfl rfl ?_
  refine J.nil ?_
  refine JQ.next hK1 ?_
  refine JC.seq fun K2 hK2 => ?_
  refine JC.region ?_
  refine J.yl (y_assign rfl rfl) rfl rfl rfl ?_
  refine J.nil ?_
  refine JQ.next hK2 ?_
  refine JC.seq fun K3 hK3 => ?_
  refine JC.seq fun K4 hK4 => ?_
  refine JC.region ?_
  refine J.yl (y_assign rfl rfl) rfl rfl rfl ?_
  refine J.nil ?_
  refine JQ.next hK4 ?_
  refine JC.block ?_
  refine JC.st ?_ (fun w hs => hs.nilrow 180 33)
  refine JC.loopE (σ := Nat × Option Addr × Nat) (M := fun q => [(3, .slice q.2.1 (opn s rs q.1).length q.2.2), (4, .int .i64 ((2 ^ q.1 / 2 : Nat) : Int))]) (kp := [(1, _)]) (hkp := (okE_cons rfl okE_nil)) (Dc := fun q => [.row (.slice q.2.1 (opn s rs q.1).length q.2.2) 180 33 (opn s rs q.1).length (tcs (opn s rs q.1)), .box g1 87 [.int .i64 (s : Int), .slice A n k]]) (H := fun _ => F) (Ψ := fun q => q.1 ≤ 13 ∧ (opn s rs q.1).length ≤ q.2.2) (μ := fun q => q.1) (13, none, 0) ⟨by dsimp only; omega, by dsimp only; rw [opn_top s rs hS]; exact Nat.le_refl _⟩ (okE_cons (by dsimp only; rw [opn_top s rs hS]; rfl) (okE_cons rfl okE_nil)) (fun w h => by dsimp only; rw [opn_top s rs hS]; exact h) (fun sK5 hK5 K5 againK5 => ?_)
  obtain ⟨e, A1, k1⟩ := sK5
  dsimp only at hK5 againK5 ⊢
  obtain ⟨he, hk1⟩ := hK5
  refine JC.seq fun K6 hK6 => ?_
  refine JC.seq fun K7 hK7 => ?_
  refine JC.region ?_
  refine J.yl (y_move rfl rfl) rfl rfl rfl ?_
  refine J.ylp (y_gt rfl rfl rfl) rfl rfl rfl (fun h1 => ?_) (fun h1 => ?_)
  · obtain ⟨e, rfl⟩ : ∃ q, e = q + 1 := by
      cases e with
      | zero => exact absurd h1 (by decide)
      | succ q => exact ⟨q, rfl⟩
    have hp : 0 < 2 ^ e := Nat.pow_pos (by decide)
    have hs2 : 2 ^ (e + 1) / 2 = 2 ^ e := by rw [Nat.pow_succ]; omega
    have hpe : 2 ^ e ≤ 4096 := Nat.le_trans (Nat.pow_le_pow_right (by decide) (show e ≤ 12 by omega)) (by decide)
    obtain ⟨qq, hqq⟩ : ∃ q, s / 2 ^ e = q := ⟨_, rfl⟩
    rw [hs2]
    refine J.nil ?_
    refine JQ.next hK7 ?_
    refine JC.yes rfl ?_
    refine JC.skip ?_
    refine JQ.next hK6 ?_
    refine JC.seq fun K8 hK8 => ?_
    refine JC.block ?_
    refine JC.seq fun K9 hK9 => ?_
    refine JC.region ?_
    refine J.yl (y_fb rfl Tb.fo87_0 rfl) rfl rfl rfl ?_
    refine J.yl (y_lb 1 rfl Tb.ag3 rfl rfl rfl) rfl rfl rfl ?_
    refine J.yl (y_move rfl rfl) rfl rfl rfl ?_
    refine J.yl ((y_quoN s (2 ^ e) rfl rfl rfl rfl rfl hp (by omega)).to (by rw [hqq])) rfl rfl rfl ?_
    refine J.yl (y_rem64 rfl rfl rfl (by omega)) rfl rfl rfl ?_
    refine J.yl (y_eq rfl rfl rfl) rfl rfl rfl ?_
    refine J.nil ?_
    refine JQ.next hK9 ?_
    refine JC.condp rfl (fun h2 => ?_) (fun h2 => ?_)
    · have hodd : s / 2 ^ e % 2 = 1 := by rw [hqq]; omega
      have hol := hle e
      have hol1 : ones (s / 2 ^ e) = ones (s / 2 ^ (e + 1)) + 1 := by rw [ones_step (by omega), div_half]; omega
      have hlen := opn_len s rs (e + 1) (by rw [hn]; exact hle (e + 1))
      obtain ⟨y, hy⟩ : ∃ y, rs.reverse[ones (s / 2 ^ (e + 1))]? = some y := ⟨_, List.getElem?_eq_getElem (by rw [List.length_reverse]; omega)⟩
      have hst := opn_odd s rs e y hodd (by omega) hy
      refine JC.region ?_
      refine J.yl (y_move rfl rfl) rfl rfl rfl ?_
      refine J.yl (y_move rfl rfl) rfl rfl rfl ?_
      refine J.yl (y_fb rfl Tb.fo87_1 rfl) rfl rfl rfl ?_
      refine J.yl (y_lb 1 rfl Tb.ag22 rfl rfl rfl) rfl rfl rfl ?_
      refine J.yl (y_move rfl rfl) rfl rfl rfl ?_
      refine J.yl (y_len rfl Tryd.underlying176 rfl) rfl rfl rfl ?_
      refine J.yl (y_hidx (l := rs.reverse) (ones (s / 2 ^ (e + 1))) rfl Tryd.underlying22 Tb.sz30 rfl rfl (by rw [hlen]) (by rw [List.length_reverse]; exact hn) (by omega) (fun w hs => hA w hs.fact)) rfl rfl rfl ?_
      refine J.yl (y_hld y rfl Tb.ag30 Tb.sz30 rfl hy (fun w hs => hA w hs.fact)) rfl rfl rfl ?_
      refine J.yl (y_buildS (cs := tc (2 ^ e, y)) (pl := [(0, 1), (1, 32)]) (zs := .int .i64 0 :: hc H.zero) rfl (by kernel_rfl) (by kernel_rfl) rfl (fill_T _ _)) rfl rfl rfl ?_
      refine J.bs1 rfl rfl rfl rfl rfl Tryd.underlying176 Tb.zz180 Tb.sz180 rfl (by decide) rfl (by first | rfl | exact tcl _ | (simp only [List.length_cons, hcl]; done)) fun g24 => ?_
      refine J.appendG 1 rfl rfl rfl rfl rfl rfl Tryd.underlying176 Tb.zz180 Tb.sz180 Tb.by180 rfl (by decide) rfl (show (tc (2 ^ e, y)).length = 1 * 33 by rw [tcl]) (fun w hs => .inr ⟨rfl, At.box (hs.get (i := 0) rfl)⟩) (by rw [← tcs_one]; exact tcs1 _) (by omega) (by decide) (show _ = (opn s rs e).length by rw [hst]; simp) (show _ = tcs (opn s rs e) by rw [hst, tcs_app, tcs_one]) fun A2 k2 _ hk2 => ?_
      refine J.yl (y_assign rfl rfl) rfl rfl rfl ?_
      refine J.nil ?_
      refine JQ.block_normal (JQ.next hK8 ?_)
      refine JC.region ?_
      refine J.yl (y_move rfl rfl) rfl rfl rfl ?_
      refine J.drop ?_
      refine J.yl (y_quoN (2 ^ e) 2 rfl rfl rfl rfl rfl (by decide) (by omega)) rfl rfl rfl ?_
      refine J.yl (y_assign rfl rfl) rfl rfl rfl ?_
      refine J.nil ?_
      refine againK5 (e, A2, k2) _ ⟨by dsimp only; omega, hk2⟩ (by dsimp only; omega) (okE_cons rfl (okE_cons rfl okE_nil)) (okE_cons rfl okE_nil)
    · have hst := opn_even s rs e (by rw [hqq]; omega)
      rw [← hst] at hk1 ⊢
      refine JC.skip ?_
      refine JQ.block_normal (JQ.next hK8 ?_)
      refine JC.region ?_
      refine J.yl (y_move rfl rfl) rfl rfl rfl ?_
      refine J.yl (y_quoN (2 ^ e) 2 rfl rfl rfl rfl rfl (by decide) (by omega)) rfl rfl rfl ?_
      refine J.yl (y_assign rfl rfl) rfl rfl rfl ?_
      refine J.nil ?_
      refine againK5 (e, A1, k1) _ ⟨by dsimp only; omega, hk1⟩ (by dsimp only; omega) (okE_cons rfl (okE_cons rfl okE_nil)) (okE_cons rfl okE_nil)
  · have he0 : e = 0 := by
      cases e with
      | zero => rfl
      | succ q =>
        exfalso
        have hp : 0 < 2 ^ q := Nat.pow_pos (by decide)
        have hs2 : 2 ^ (q + 1) / 2 = 2 ^ q := by rw [Nat.pow_succ]; omega
        rw [hs2] at h1
        omega
    subst he0
    refine J.nil ?_
    refine JQ.next hK7 ?_
    refine JC.no rfl ?_
    refine JC.exit ?_
    refine JQ.then_exit (JQ.then_exit (JQ.block_hit (JQ.next hK3 ?_)))
    refine JC.seq fun K10 hK10 => ?_
    refine JC.region ?_
    refine J.yl (y_move rfl rfl) rfl rfl rfl ?_
    refine J.yl (y_assign rfl rfl) rfl rfl rfl ?_
    refine J.nil ?_
    refine JQ.next hK10 ?_
    refine JC.ret ?_
    exact ret1 rfl (r_tmp rfl) fun w hs => Post.of_st hs (A1, k1) hk1 (.cons_cons _ (List.nil_sublist _)) fun _ _ => trivial
end Go.Proofs.YtjkfeonbioccmaaDoor
namespace Go.Proofs.YtjkfeonbioccmaaDoor
open Go Go.Sx Go.RowKit
set_option linter.unusedVariables false
set_option linter.unusedSimpArgs false
set_option maxRecDepth 100000
set_option maxHeartbeats 4000000
variable {Gl F : World → Prop}
def sumT (l : List (Nat × H)) : Nat := (l.map Prod.fst).sum
theorem rev_last (t : Nat × H) (l : List (Nat × H)) : (t :: l).reverse[l.length]? = some t := by
  rw [List.reverse_cons, List.getElem?_append_right (by simp)]; simp
theorem rev_last2 (t u : Nat × H) (l : List (Nat × H)) : (t :: u :: l).reverse[l.length]? = some u := by
  rw [List.reverse_cons, List.getElem?_append_left (by simp), rev_last]
theorem join_fn (p0 : Nat) (h0 : H) (l0 : List (Nat × H)) (A0 : Option Addr) (k0 : Nat) (hk0 : ((p0, h0) :: l0).reverse.length ≤ k0) (hs0 : p0 + sumT l0 ≤ 100000) (hl0 : l0.length ≤ 1000) :
    FnSpec Tryd.prog Gl 133 [.slice A0 ((p0, h0) :: l0).reverse.length k0] (OwnT ((p0, h0) :: l0).reverse (A0, k0)) F (ι := Option Addr × Nat) (fun q => (addT p0 h0 l0).reverse.length ≤ q.2) (fun q => .slice q.1 (addT p0 h0 l0).reverse.length q.2) (OwnT (addT p0 h0 l0).reverse) (fun _ _ => True) := by
  refine FnSpec.intro Tryd.func133 rfl Tryd.ntmps133 rfl fun X M w => ?_
  refine JC.seq fun K1 hK1 => ?_
  refine JC.region ?_
  refine J.yl (y_assign rfl rfl) rfl rfl rfl ?_
  refine J.nil ?_
  refine JQ.next hK1 ?_
  refine JC.seq fun K2 hK2 => ?_
  refine JC.region ?_
  refine J.yl (y_move rfl rfl) rfl rfl rfl ?_
  refine J.yl (y_len rfl Tryd.underlying176 rfl) rfl rfl rfl ?_
  refine J.yl (y_assign rfl rfl) rfl rfl rfl ?_
  refine J.nil ?_
  refine JQ.next hK2 ?_
  refine JC.seq fun K3 hK3 => ?_
  refine JC.block ?_
  refine JC.loopE (σ := Nat × H × List (Nat × H) × Option Addr × Nat) (M := fun q => [(0, .slice q.2.2.2.1 ((q.1, q.2.1) :: q.2.2.1).reverse.length q.2.2.2.2), (3, .int .i64 (((q.1, q.2.1) :: q.2.2.1).reverse.length : Int))]) (kp := []) (hkp := okE_nil) (Dc := fun q => OwnT ((q.1, q.2.1) :: q.2.2.1).reverse (q.2.2.2.1, q.2.2.2.2)) (H := fun _ => F) (Ψ := fun q => addT q.1 q.2.1 q.2.2.1 = addT p0 h0 l0 ∧ q.1 + sumT q.2.2.1 ≤ 100000 ∧ q.2.2.1.length ≤ 1000 ∧ ((q.1, q.2.1) :: q.2.2.1).reverse.length ≤ q.2.2.2.2) (μ := fun q => q.2.2.1.length) (p0, h0, l0, A0, k0) ⟨rfl, hs0, hl0, hk0⟩ (okE_cons rfl (okE_cons rfl okE_nil)) (fun w h => h) (fun sK4 hK4 K4 againK4 => ?_)
  obtain ⟨p, h, l, A, k⟩ := sK4
  dsimp only at hK4 againK4 ⊢
  obtain ⟨hadd, hs, hl, hk⟩ := hK4
  refine JC.seq fun K5 hK5 => ?_
  refine JC.seq fun K6 hK6 => ?_
  refine JC.drawM [true] (by kernel_rfl) ?_
  refine D.take 0 (y_move rfl rfl) rfl rfl rfl rfl (by kernel_rfl) (by kernel_rfl) (by kernel_rfl) (PQ.next (PQ.next (PQ.next (PQ.block (PQ.next PQ.body))))) ?_
  have hL : ((p, h) :: l).reverse.length = l.length + 1 := by simp
  refine D.takep 1 (y_gt rfl rfl rfl) rfl rfl rfl rfl (by kernel_rfl) (by kernel_rfl) (by kernel_rfl) (PQ.next (PQ.next (PQ.next (PQ.block (PQ.next PQ.body))))) (fun h1 => ?_) (fun h1 => ?_)
  · rcases l with _ | ⟨⟨p', h'⟩, l'⟩
    · exact absurd h1 (by rw [hL]; decide)
    · have hL2 : ((p, h) :: (p', h') :: l').reverse.length = l'.length + 2 := by simp
      have hs' : p + (p' + sumT l') ≤ 100000 := hs
      rw [List.length_cons] at hl
      have hla := rev_last (p, h) ((p', h') :: l')
      rw [List.length_cons] at hla
      have hlb := rev_last2 (p, h) (p', h') l'
      refine D.take 2 (y_move rfl rfl) rfl rfl rfl rfl (by kernel_rfl) (by kernel_rfl) (by kernel_rfl) (PQ.next (PQ.next (PQ.next (PQ.block (PQ.next PQ.body))))) ?_
      refine D.takeG 3 (y_move rfl rfl) rfl rfl rfl rfl rfl rfl rfl (by kernel_rfl) (by kernel_rfl) (by kernel_rfl) (PQ.next (PQ.next (PQ.next (PQ.block (PQ.next PQ.body))))) ?_
      refine D.takeG 4 (y_move rfl rfl) rfl rfl rfl rfl rfl rfl rfl (by kernel_rfl) (by kernel_rfl) (by kernel_rfl) (PQ.next (PQ.next (PQ.next (PQ.block (PQ.next PQ.body))))) ?_
      refine D.takeG 5 (y_sub64 rfl rfl rfl (by omega)) rfl rfl rfl rfl rfl rfl rfl (by kernel_rfl) (by kernel_rfl) (by kernel_rfl) (PQ.next (PQ.next (PQ.next (PQ.block (PQ.next PQ.body))))) ?_
      refine D.takeG 9 (y_move rfl rfl) rfl rfl rfl rfl rfl rfl rfl (by kernel_rfl) (by kernel_rfl) (by kernel_rfl) (PQ.next (PQ.next (PQ.next (PQ.block (PQ.next PQ.body))))) ?_
      refine D.takeG 10 (y_move rfl rfl) rfl rfl rfl rfl rfl rfl rfl (by kernel_rfl) (by kernel_rfl) (by kernel_rfl) (PQ.next (PQ.next (PQ.next (PQ.block (PQ.next PQ.body))))) ?_
      refine D.takeG 11 (y_sub64 rfl rfl rfl (by omega)) rfl rfl rfl rfl rfl rfl rfl (by kernel_rfl) (by kernel_rfl) (by kernel_rfl) (PQ.next (PQ.next (PQ.next (PQ.block (PQ.next PQ.body))))) ?_
      refine D.takeG 6 (y_fidx tcl (n := ((p, h) :: (p', h') :: l').reverse.length) (l'.length + 1) rfl Tryd.underlying176 Tb.sz180 rfl rfl (by rw [hL2]; omega) rfl (by omega) (by decide) (fun w hs => strow hs 0 rfl)) rfl rfl rfl rfl rfl rfl rfl (by kernel_rfl) (by kernel_rfl) (by kernel_rfl) (PQ.next (PQ.next (PQ.next (PQ.block (PQ.next PQ.body))))) ?_
      refine D.takeG 7 (y_fpart rfl Tb.fo180_0 rfl) rfl rfl rfl rfl rfl rfl rfl (by kernel_rfl) (by kernel_rfl) (by kernel_rfl) (PQ.next (PQ.next (PQ.next (PQ.block (PQ.next PQ.body))))) ?_
      refine D.takeG 8 (y_fld1 tcl (p, h) rfl Tb.ag3 rfl hla (by decide) rfl (fun w hs => strow hs 0 rfl)) rfl rfl rfl rfl rfl rfl rfl (by kernel_rfl) (by kernel_rfl) (by kernel_rfl) (PQ.next (PQ.next (PQ.next (PQ.block (PQ.next PQ.body))))) ?_
      refine D.takeG 12 (y_fidx tcl (n := ((p, h) :: (p', h') :: l').reverse.length) l'.length rfl Tryd.underlying176 Tb.sz180 rfl rfl (by rw [hL2]; omega) rfl (by omega) (by decide) (fun w hs => strow hs 0 rfl)) rfl rfl rfl rfl rfl rfl rfl (by kernel_rfl) (by kernel_rfl) (by kernel_rfl) (PQ.next (PQ.next (PQ.next (PQ.block (PQ.next PQ.body))))) ?_
      refine D.takeG 13 (y_fpart rfl Tb.fo180_0 rfl) rfl rfl rfl rfl rfl rfl rfl (by kernel_rfl) (by kernel_rfl) (by kernel_rfl) (PQ.next (PQ.next (PQ.next (PQ.block (PQ.next PQ.body))))) ?_
      refine D.takeG 14 (y_fld1 tcl (p', h') rfl Tb.ag3 rfl hlb (by decide) rfl (fun w hs => strow hs 0 rfl)) rfl rfl rfl rfl rfl rfl rfl (by kernel_rfl) (by kernel_rfl) (by kernel_rfl) (PQ.next (PQ.next (PQ.next (PQ.block (PQ.next PQ.body))))) ?_
      refine D.takeG 15 (y_eq rfl rfl rfl) rfl rfl rfl rfl rfl rfl rfl (by kernel_rfl) (by kernel_rfl) (by kernel_rfl) (PQ.next (PQ.next (PQ.next (PQ.block (PQ.next PQ.body))))) ?_
      refine D.take 16 (y_pick rfl rfl (fun _ => rfl) (fun h => by cases h)) rfl rfl rfl rfl (by kernel_rfl) (by kernel_rfl) (by kernel_rfl) (PQ.next (PQ.next (PQ.next (PQ.block (PQ.next PQ.body))))) ?_
      refine D.done (by kernel_rfl) ?_
      refine JQ.next hK6 ?_
      refine JC.condp rfl (fun h2 => ?_) (fun h2 => ?_)
      · have hpp : p' = p := by omega
        have hstep : addT (2 * p) (node h' h) l' = addT p0 h0 l0 := by rw [← hadd, addT, if_pos hpp]
        have htk : ((p, h) :: (p', h') :: l').reverse.take l'.length = l'.reverse := by
          rw [List.reverse_cons, List.reverse_cons, List.append_assoc, List.take_append_of_le_length (by simp), List.take_of_length_le (by simp)]
        refine JC.skip ?_
        refine JQ.next hK5 ?_
        refine JC.block ?_
        refine JC.seq fun K7 hK7 => ?_
        refine JC.drawM [true] (by kernel_rfl) ?_
        refine D.take 0 (y_move rfl rfl) rfl rfl rfl rfl (by kernel_rfl) (by kernel_rfl) (by kernel_rfl) (PQ.next (PQ.block (PQ.next (PQ.block (PQ.next PQ.body))))) ?_
        refine D.take 1 (y_move rfl rfl) rfl rfl rfl rfl (by kernel_rfl) (by kernel_rfl) (by kernel_rfl) (PQ.next (PQ.block (PQ.next (PQ.block (PQ.next PQ.body))))) ?_
        refine D.take 2 (y_sub64 rfl rfl rfl (by omega)) rfl rfl rfl rfl (by kernel_rfl) (by kernel_rfl) (by kernel_rfl) (PQ.next (PQ.block (PQ.next (PQ.block (PQ.next PQ.body))))) ?_
        refine D.take 5 (y_move rfl rfl) rfl rfl rfl rfl (by kernel_rfl) (by kernel_rfl) (by kernel_rfl) (PQ.next (PQ.block (PQ.next (PQ.block (PQ.next PQ.body))))) ?_
        refine D.take 6 (y_move rfl rfl) rfl rfl rfl rfl (by kernel_rfl) (by kernel_rfl) (by kernel_rfl) (PQ.next (PQ.block (PQ.next (PQ.block (PQ.next PQ.body))))) ?_
        refine D.take 7 (y_sub64 rfl rfl rfl (by omega)) rfl rfl rfl rfl (by kernel_rfl) (by kernel_rfl) (by kernel_rfl) (PQ.next (PQ.block (PQ.next (PQ.block (PQ.next PQ.body))))) ?_
        refine D.take 12 (y_move rfl rfl) rfl rfl rfl rfl (by kernel_rfl) (by kernel_rfl) (by kernel_rfl) (PQ.next (PQ.block (PQ.next (PQ.block (PQ.next PQ.body))))) ?_
        refine D.take 13 (y_move rfl rfl) rfl rfl rfl rfl (by kernel_rfl) (by kernel_rfl) (by kernel_rfl) (PQ.next (PQ.block (PQ.next (PQ.block (PQ.next PQ.body))))) ?_
        refine D.take 14 (y_sub64 rfl rfl rfl (by omega)) rfl rfl rfl rfl (by kernel_rfl) (by kernel_rfl) (by kernel_rfl) (PQ.next (PQ.block (PQ.next (PQ.block (PQ.next PQ.body))))) ?_
        refine D.take 18 (y_move rfl rfl) rfl rfl rfl rfl (by kernel_rfl) (by kernel_rfl) (by kernel_rfl) (PQ.next (PQ.block (PQ.next (PQ.block (PQ.next PQ.body))))) ?_
        refine D.take 19 (y_move rfl rfl) rfl rfl rfl rfl (by kernel_rfl) (by kernel_rfl) (by kernel_rfl) (PQ.next (PQ.block (PQ.next (PQ.block (PQ.next PQ.body))))) ?_
        refine D.take 20 (y_sub64 rfl rfl rfl (by omega)) rfl rfl rfl rfl (by kernel_rfl) (by kernel_rfl) (by kernel_rfl) (PQ.next (PQ.block (PQ.next (PQ.block (PQ.next PQ.body))))) ?_
        refine D.take 3 (y_cuttoN l'.length rfl Tryd.underlying176 Tb.sz180 rfl rfl (by rw [hL2]; omega) (by omega)) rfl rfl rfl rfl (by kernel_rfl) (by kernel_rfl) (by kernel_rfl) (PQ.next (PQ.block (PQ.next (PQ.block (PQ.next PQ.body))))) ?_
        refine D.take 8 (y_fidx tcl (n := ((p, h) :: (p', h') :: l').reverse.length) (l'.length + 1) rfl Tryd.underlying176 Tb.sz180 rfl rfl (by rw [hL2]; omega) rfl (by omega) (by decide) (fun w hs => strow hs 0 rfl)) rfl rfl rfl rfl (by kernel_rfl) (by kernel_rfl) (by kernel_rfl) (PQ.next (PQ.block (PQ.next (PQ.block (PQ.next PQ.body))))) ?_
        refine D.take 9 (y_fpart rfl Tb.fo180_0 rfl) rfl rfl rfl rfl (by kernel_rfl) (by kernel_rfl) (by kernel_rfl) (PQ.next (PQ.block (PQ.next (PQ.block (PQ.next PQ.body))))) ?_
        refine D.take 10 (y_fld1 tcl (p, h) rfl Tb.ag3 rfl hla (by decide) rfl (fun w hs => strow hs 0 rfl)) rfl rfl rfl rfl (by kernel_rfl) (by kernel_rfl) (by kernel_rfl) (PQ.next (PQ.block (PQ.next (PQ.block (PQ.next PQ.body))))) ?_
        refine D.take 11 (y_mul64 rfl rfl rfl (by omega)) rfl rfl rfl rfl (by kernel_rfl) (by kernel_rfl) (by kernel_rfl) (PQ.next (PQ.block (PQ.next (PQ.block (PQ.next PQ.body))))) ?_
        refine D.take 15 (y_fidx tcl (n := ((p, h) :: (p', h') :: l').reverse.length) l'.length rfl Tryd.underlying176 Tb.sz180 rfl rfl (by rw [hL2]; omega) rfl (by omega) (by decide) (fun w hs => strow hs 0 rfl)) rfl rfl rfl rfl (by kernel_rfl) (by kernel_rfl) (by kernel_rfl) (PQ.next (PQ.block (PQ.next (PQ.block (PQ.next PQ.body))))) ?_
        refine D.take 16 (y_fpart rfl Tb.fo180_1 rfl) rfl rfl rfl rfl (by kernel_rfl) (by kernel_rfl) (by kernel_rfl) (PQ.next (PQ.block (PQ.next (PQ.block (PQ.next PQ.body))))) ?_
        refine D.take 17 (y_fldA (vs := hc h') tcl (p', h') rfl Tb.ag30 (by rw [hcl]; exact Tb.sz30) rfl hlb (by rw [hcl]; decide) (show (hc h').take _ = _ by rw [List.take_length]) (by intro e; have := congrArg List.length e; rw [hcl] at this; cases this) (fun w hs => strow hs 0 rfl)) rfl rfl rfl rfl (by kernel_rfl) (by kernel_rfl) (by kernel_rfl) (PQ.next (PQ.block (PQ.next (PQ.block (PQ.next PQ.body))))) ?_
        refine D.take 21 (y_fidx tcl (n := ((p, h) :: (p', h') :: l').reverse.length) (l'.length + 1) rfl Tryd.underlying176 Tb.sz180 rfl rfl (by rw [hL2]; omega) rfl (by omega) (by decide) (fun w hs => strow hs 0 rfl)) rfl rfl rfl rfl (by kernel_rfl) (by kernel_rfl) (by kernel_rfl) (PQ.next (PQ.block (PQ.next (PQ.block (PQ.next PQ.body))))) ?_
        refine D.take 22 (y_fpart rfl Tb.fo180_1 rfl) rfl rfl rfl rfl (by kernel_rfl) (by kernel_rfl) (by kernel_rfl) (PQ.next (PQ.block (PQ.next (PQ.block (PQ.next PQ.body))))) ?_
        refine D.take 23 (y_fldA (vs := hc h) tcl (p, h) rfl Tb.ag30 (by rw [hcl]; exact Tb.sz30) rfl hla (by rw [hcl]; decide) (show (hc h).take _ = _ by rw [List.take_length]) (by intro e; have := congrArg List.length e; rw [hcl] at this; cases this) (fun w hs => strow hs 0 rfl)) rfl rfl rfl rfl (by kernel_rfl) (by kernel_rfl) (by kernel_rfl) (PQ.next (PQ.block (PQ.next (PQ.block (PQ.next PQ.body))))) ?_
        refine D.ofJ 4 (by kernel_rfl) rfl fun KhK9 hK9 => ?_
        refine J.appNilG (tcs l'.reverse) rfl rfl rfl rfl rfl rfl Tryd.underlying176 Tb.zz180 Tb.sz180 Tb.by180 rfl (by decide) (show (tcs l'.reverse).length = l'.length * 33 by rw [tcs_len, List.length_reverse]) (fun w hs => by rw [← htk]; exact (strow hs 0 rfl : Sl w A (tcs _)).ftake tcl _) (tcs1 _) (by omega) (by decide) fun A2 k2 hk2 => ?_
        refine J.nil ?_
        refine hK9 _ _ _ (fun w hs => hs.mask [false, true]) ?_
        refine D.ofJ 24 (by kernel_rfl) rfl fun KhK11 hK11 => ?_
        refine J.callv rfl rfl rfl rfl Tb.cl139 rfl (rnode_spec h' h) ?_
        refine J.nil ?_
        refine hK11 _ _ _ (fun w hs => hs.mask [false, true]) ?_
        refine D.take 25 (y_buildS (cs := tc (2 * p, node h' h)) (pl := [(0, 1), (1, 32)]) (zs := .int .i64 0 :: hc H.zero) rfl (by kernel_rfl) (by kernel_rfl) rfl (fill_T _ _)) rfl rfl rfl rfl (by kernel_rfl) (by kernel_rfl) (by kernel_rfl) (PQ.next (PQ.block (PQ.next (PQ.block (PQ.next PQ.body))))) ?_
        refine D.ofJ 26 (by kernel_rfl) rfl fun KhK12 hK12 => ?_
        refine J.bs1 rfl rfl rfl rfl rfl Tryd.underlying176 Tb.zz180 Tb.sz180 rfl (by decide) rfl (by first | rfl | exact tcl _ | (simp only [List.length_cons, hcl]; done)) fun g49 => ?_
        refine J.nil ?_
        refine hK12 _ _ _ (fun w hs => hs.mask [false, false, true]) ?_
        refine D.ofJ 27 (by kernel_rfl) rfl fun KhK14 hK14 => ?_
        refine J.appendG 1 rfl rfl rfl rfl rfl rfl Tryd.underlying176 Tb.zz180 Tb.sz180 Tb.by180 rfl (by decide) rfl (show (tc (2 * p, node h' h)).length = 1 * 33 by rw [tcl]) (fun w hs => .inr ⟨rfl, At.box (hs.get (i := 0) rfl)⟩) (by rw [← tcs_one]; exact tcs1 _) (by omega) (by decide) (show _ = ((2 * p, node h' h) :: l').reverse.length by simp) (show _ = tcs ((2 * p, node h' h) :: l').reverse by rw [List.reverse_cons, tcs_app, tcs_one]) fun A3 k3 _ hk3 => ?_
        refine J.nil ?_
        refine hK14 _ _ _ (fun w hs => hs.mask [false, false, true]) ?_
        refine D.take 28 (y_assign rfl rfl) rfl rfl rfl rfl (by kernel_rfl) (by kernel_rfl) (by kernel_rfl) (PQ.next (PQ.block (PQ.next (PQ.block (PQ.next PQ.body))))) ?_
        refine D.done (by kernel_rfl) ?_
        refine JQ.next hK7 ?_
        refine JC.region ?_
        refine J.yl (y_move rfl rfl) rfl rfl rfl ?_
        refine J.yl (y_sub64 rfl rfl rfl (by omega)) rfl rfl rfl ?_
        refine J.yl (y_assign rfl rfl) rfl rfl rfl ?_
        refine J.nil ?_
        refine JQ.block_normal ?_
        refine JQ.front 1 rfl ?_
        refine JQ.keepn 1 ?_
        refine againK4 (2 * p, node h' h, l', A3, k3) _ ⟨hstep, by dsimp only; omega, by dsimp only; omega, hk3⟩ (by dsimp only; simp) (okE_cons rfl (okE_cons (slotI (by simp only [List.length_reverse, List.length_cons]; omega)) okE_nil)) okE_nil
      · have hfin : addT p0 h0 l0 = (p, h) :: (p', h') :: l' := by rw [← hadd, addT, if_neg (by omega)]
        refine JC.exit ?_
        refine JQ.then_exit (JQ.then_exit (JQ.block_hit (JQ.next hK3 ?_)))
        refine JC.seq fun K15 hK15 => ?_
        refine JC.region ?_
        refine J.yl (y_move rfl rfl) rfl rfl rfl ?_
        refine J.yl (y_assign rfl rfl) rfl rfl rfl ?_
        refine J.nil ?_
        refine JQ.next hK15 ?_
        refine JC.ret ?_
        exact ret1 rfl (r_tmp rfl) fun w hs => by rw [hfin]; exact Post.of_st hs (A, k) hk (List.Sublist.refl _) fun _ _ => trivial
  · have hl0' : l = [] := List.eq_nil_of_length_eq_zero (by omega)
    subst hl0'
    have hfin : addT p0 h0 l0 = [(p, h)] := by rw [← hadd, addT]
    refine D.take 2 (y_move rfl rfl) rfl rfl rfl rfl (by kernel_rfl) (by kernel_rfl) (by kernel_rfl) (PQ.next (PQ.next (PQ.next (PQ.block (PQ.next PQ.body))))) ?_
    refine D.skipG (b := false) 3 rfl rfl rfl rfl rfl rfl rfl (by kernel_rfl) (by kernel_rfl) (by kernel_rfl) (PQ.next (PQ.next (PQ.next (PQ.block (PQ.next PQ.body))))) ?_
    refine D.skipG (b := false) 4 rfl rfl rfl rfl rfl rfl rfl (by kernel_rfl) (by kernel_rfl) (by kernel_rfl) (PQ.next (PQ.next (PQ.next (PQ.block (PQ.next PQ.body))))) ?_
    refine D.skipG (b := false) 5 rfl rfl rfl rfl rfl rfl rfl (by kernel_rfl) (by kernel_rfl) (by kernel_rfl) (PQ.next (PQ.next (PQ.next (PQ.block (PQ.next PQ.body))))) ?_
    refine D.skipG (b := false) 6 rfl rfl rfl rfl rfl rfl rfl (by kernel_rfl) (by kernel_rfl) (by kernel_rfl) (PQ.next (PQ.next (PQ.next (PQ.block (PQ.next PQ.body))))) ?_
    refine D.skipG (b := false) 7 rfl rfl rfl rfl rfl rfl rfl (by kernel_rfl) (by kernel_rfl) (by kernel_rfl) (PQ.next (PQ.next (PQ.next (PQ.block (PQ.next PQ.body))))) ?_
    refine D.skipG (b := false) 8 rfl rfl rfl rfl rfl rfl rfl (by kernel_rfl) (by kernel_rfl) (by kernel_rfl) (PQ.next (PQ.next (PQ.next (PQ.block (PQ.next PQ.body))))) ?_
    refine D.skipG (b := false) 9 rfl rfl rfl rfl rfl rfl rfl (by kernel_rfl) (by kernel_rfl) (by kernel_rfl) (PQ.next (PQ.next (PQ.next (PQ.block (PQ.next PQ.body))))) ?_
    refine D.skipG (b := false) 10 rfl rfl rfl rfl rfl rfl rfl (by kernel_rfl) (by kernel_rfl) (by kernel_rfl) (PQ.next (PQ.next (PQ.next (PQ.block (PQ.next PQ.body))))) ?_
    refine D.skipG (b := false) 11 rfl rfl rfl rfl rfl rfl rfl (by kernel_rfl) (by kernel_rfl) (by kernel_rfl) (PQ.next (PQ.next (PQ.next (PQ.block (PQ.next PQ.body))))) ?_
    refine D.skipG (b := false) 12 rfl rfl rfl rfl rfl rfl rfl (by kernel_rfl) (by kernel_rfl) (by kernel_rfl) (PQ.next (PQ.next (PQ.next (PQ.block (PQ.next PQ.body))))) ?_
    refine D.skipG (b := false) 13 rfl rfl rfl rfl rfl rfl rfl (by kernel_rfl) (by kernel_rfl) (by kernel_rfl) (PQ.next (PQ.next (PQ.next (PQ.block (PQ.next PQ.body))))) ?_
    refine D.skipG (b := false) 14 rfl rfl rfl rfl rfl rfl rfl (by kernel_rfl) (by kernel_rfl) (by kernel_rfl) (PQ.next (PQ.next (PQ.next (PQ.block (PQ.next PQ.body))))) ?_
    refine D.skipG (b := false) 15 rfl rfl rfl rfl rfl rfl rfl (by kernel_rfl) (by kernel_rfl) (by kernel_rfl) (PQ.next (PQ.next (PQ.next (PQ.block (PQ.next PQ.body))))) ?_
    refine D.take 16 (y_pick rfl rfl (fun h => by cases h) (fun _ => rfl)) rfl rfl rfl rfl (by kernel_rfl) (by kernel_rfl) (by kernel_rfl) (PQ.next (PQ.next (PQ.next (PQ.block (PQ.next PQ.body))))) ?_
    refine D.done (by kernel_rfl) ?_
    refine JQ.next hK6 ?_
    refine JC.no rfl ?_
    refine JC.exit ?_
    refine JQ.then_exit (JQ.then_exit (JQ.block_hit (JQ.next hK3 ?_)))
    refine JC.seq fun K16 hK16 => ?_
    refine JC.region ?_
    refine J.yl (y_move rfl rfl) rfl rfl rfl ?_
    refine J.yl (y_assign rfl rfl) rfl rfl rfl ?_
    refine J.nil ?_
    refine JQ.next hK16 ?_
    refine JC.ret ?_
    exact ret1 rfl (r_tmp rfl) fun w hs => by rw [hfin]; exact Post.of_st hs (A, k) hk (List.Sublist.refl _) fun _ _ => trivial
end Go.Proofs.YtjkfeonbioccmaaDoor
namespace Go.Proofs.YtjkfeonbioccmaaDoor
open Go Go.Sx Go.RowKit
set_option linter.unusedVariables false
set_option linter.unusedSimpArgs false
set_option maxRecDepth 100000
set_option maxHeartbeats 4000000
variable {Gl F : World → Prop}
theorem sumT_take (l : List (Nat × H)) (i : Nat) (t : Nat × H) (h : l[i]? = some t) : sumT (l.take (i + 1)) = sumT (l.take i) + t.1 := by
  unfold sumT
  rw [List.take_add_one, h, List.map_append, List.sum_append]; simp
theorem sumT_le (l : List (Nat × H)) (i : Nat) : sumT (l.take i) ≤ sumT l := by
  have : sumT l = sumT (l.take i) + sumT (l.drop i) := by
    unfold sumT
    conv => lhs; rw [← List.take_append_drop i l, List.map_append, List.sum_append]
  omega
theorem close_fn (ts : List (Nat × H)) (A : Option Addr) (n k : Nat) (hn : ts.length = n) (hs : sumT ts ≤ 100000) (hN : n ≤ 10000) (hA : ∀ w, F w → Sl w A (tcs ts)) :
    FnSpec Tryd.prog Gl 134 [.slice A n k] [] F (ι := Option Addr × Nat) (fun q => (ts.map Prod.snd).length ≤ q.2) (fun q => .agg #[.int .i64 (sumT ts : Int), .slice q.1 (ts.map Prod.snd).length q.2]) (OwnL (ts.map Prod.snd)) (fun _ _ => True) := by
  refine FnSpec.intro Tryd.func134 rfl Tryd.ntmps134 rfl fun X M w => ?_
  refine JC.seq fun K1 hK1 => ?_
  refine JC.region ?_
  refine J.alloc rfl rfl rfl rfl Tb.zz87 rfl fun g2 => ?_
  refine J.nil ?_
  refine JQ.next hK1 ?_
  refine JC.seq fun K2 hK2 => ?_
  refine JC.region ?_
  refine J.alloc rfl rfl rfl rfl Tb.zz87 rfl fun g3 => ?_
  refine J.nil ?_
  refine JQ.next hK2 ?_
  refine JC.seq fun K3 hK3 => ?_
  refine JC.seq fun K4 hK4 => ?_
  refine JC.region ?_
  refine J.yl (y_assign rfl rfl) rfl rfl rfl ?_
  refine J.nil ?_
  refine JQ.next hK4 ?_
  refine JC.block ?_
  refine JC.st ?_ (fun w hs => hs.nilrow 30 32)
  refine JC.loopE (σ := Nat × Option Addr × Nat) (M := fun q => [(4, .int .i64 (q.1 : Int))]) (kp := [(0, _), (2, _), (3, _)]) (hkp := (okE_cons rfl (okE_cons rfl (okE_cons rfl okE_nil)))) (Dc := fun q => [.row (.slice q.2.1 ((ts.take q.1).map Prod.snd).length q.2.2) 30 32 ((ts.take q.1).map Prod.snd).length (hcs ((ts.take q.1).map Prod.snd)), .box g3 87 [.int .i64 (sumT (ts.take q.1) : Int), .slice q.2.1 ((ts.take q.1).map Prod.snd).length q.2.2], .box g2 87 [.int .i64 0, .slice none 0 0]]) (H := fun _ => F) (Ψ := fun q => q.1 ≤ n ∧ ((ts.take q.1).map Prod.snd).length ≤ q.2.2) (μ := fun q => n - q.1) (0, none, 0) ⟨Nat.zero_le _, Nat.le_refl _⟩ (okE_cons rfl okE_nil) (fun w h => h) (fun sK5 hK5 K5 againK5 => ?_)
  obtain ⟨i, A1, k1⟩ := sK5
  dsimp only at hK5 againK5 ⊢
  obtain ⟨hi, hk1⟩ := hK5
  refine JC.seq fun K6 hK6 => ?_
  refine JC.seq fun K7 hK7 => ?_
  refine JC.region ?_
  refine J.yl (y_move rfl rfl) rfl rfl rfl ?_
  refine J.yl (y_move rfl rfl) rfl rfl rfl ?_
  refine J.yl (y_len rfl Tryd.underlying176 rfl) rfl rfl rfl ?_
  refine J.yl (y_lt rfl rfl rfl) rfl rfl rfl ?_
  refine J.nil ?_
  refine JQ.next hK7 ?_
  refine JC.condp rfl (fun h1 => ?_) (fun h1 => ?_)
  · obtain ⟨t, ht⟩ : ∃ t, ts[i]? = some t := ⟨_, List.getElem?_eq_getElem (show i < ts.length by omega)⟩
    have hst := sumT_take ts i t ht
    have hle := sumT_le ts (i + 1)
    have hmap : (ts.take (i + 1)).map Prod.snd = (ts.take i).map Prod.snd ++ [t.2] := by rw [List.take_add_one, ht, List.map_append]; rfl
    have hlm : ((ts.take i).map Prod.snd).length = i := by rw [List.length_map, List.length_take]; omega
    have hc0 : (hc t.2) ≠ [] := by intro e; have := congrArg List.length e; rw [hcl] at this; cases this
    refine JC.skip ?_
    refine JQ.next hK6 ?_
    refine JC.seq fun K8 hK8 => ?_
    refine JC.block ?_
    refine JC.drawM [false, true, false] (by kernel_rfl) ?_
    refine D.take 0 (y_fb rfl Tb.fo87_0 rfl) rfl rfl rfl rfl (by kernel_rfl) (by kernel_rfl) (by kernel_rfl) (PQ.block (PQ.next (PQ.next (PQ.block (PQ.next PQ.body))))) ?_
    refine D.take 1 (y_lb 0 rfl Tb.ag3 rfl rfl rfl) rfl rfl rfl rfl (by kernel_rfl) (by kernel_rfl) (by kernel_rfl) (PQ.block (PQ.next (PQ.next (PQ.block (PQ.next PQ.body))))) ?_
    refine D.take 2 (y_move rfl rfl) rfl rfl rfl rfl (by kernel_rfl) (by kernel_rfl) (by kernel_rfl) (PQ.block (PQ.next (PQ.next (PQ.block (PQ.next PQ.body))))) ?_
    refine D.take 3 (y_move rfl rfl) rfl rfl rfl rfl (by kernel_rfl) (by kernel_rfl) (by kernel_rfl) (PQ.block (PQ.next (PQ.next (PQ.block (PQ.next PQ.body))))) ?_
    refine D.take 8 (y_fb rfl Tb.fo87_1 rfl) rfl rfl rfl rfl (by kernel_rfl) (by kernel_rfl) (by kernel_rfl) (PQ.block (PQ.next (PQ.next (PQ.block (PQ.next PQ.body))))) ?_
    refine D.take 9 (y_lb 0 rfl Tb.ag22 rfl rfl rfl) rfl rfl rfl rfl (by kernel_rfl) (by kernel_rfl) (by kernel_rfl) (PQ.block (PQ.next (PQ.next (PQ.block (PQ.next PQ.body))))) ?_
    refine D.take 10 (y_move rfl rfl) rfl rfl rfl rfl (by kernel_rfl) (by kernel_rfl) (by kernel_rfl) (PQ.block (PQ.next (PQ.next (PQ.block (PQ.next PQ.body))))) ?_
    refine D.take 11 (y_move rfl rfl) rfl rfl rfl rfl (by kernel_rfl) (by kernel_rfl) (by kernel_rfl) (PQ.block (PQ.next (PQ.next (PQ.block (PQ.next PQ.body))))) ?_
    refine D.take 4 (y_fidx tcl i rfl Tryd.underlying176 Tb.sz180 rfl rfl rfl hn (by omega) (by decide) (fun w hs => hA w hs.fact)) rfl rfl rfl rfl (by kernel_rfl) (by kernel_rfl) (by kernel_rfl) (PQ.block (PQ.next (PQ.next (PQ.block (PQ.next PQ.body))))) ?_
    refine D.take 5 (y_fpart rfl Tb.fo180_0 rfl) rfl rfl rfl rfl (by kernel_rfl) (by kernel_rfl) (by kernel_rfl) (PQ.block (PQ.next (PQ.next (PQ.block (PQ.next PQ.body))))) ?_
    refine D.take 6 (y_fld1 tcl t rfl Tb.ag3 rfl ht (by decide) rfl (fun w hs => hA w hs.fact)) rfl rfl rfl rfl (by kernel_rfl) (by kernel_rfl) (by kernel_rfl) (PQ.block (PQ.next (PQ.next (PQ.block (PQ.next PQ.body))))) ?_
    refine D.take 7 (Yl.to (v' := .int .i64 (sumT (ts.take (i + 1)) : Int)) (y_add64 rfl rfl rfl (by omega)) (by rw [hst, Int.natCast_add])) rfl rfl rfl rfl (by kernel_rfl) (by kernel_rfl) (by kernel_rfl) (PQ.block (PQ.next (PQ.next (PQ.block (PQ.next PQ.body))))) ?_
    refine D.take 17 (y_fb rfl Tb.fo87_0 rfl) rfl rfl rfl rfl (by kernel_rfl) (by kernel_rfl) (by kernel_rfl) (PQ.block (PQ.next (PQ.next (PQ.block (PQ.next PQ.body))))) ?_
    refine D.take 12 (y_fidx tcl i rfl Tryd.underlying176 Tb.sz180 rfl rfl rfl hn (by omega) (by decide) (fun w hs => hA w hs.fact)) rfl rfl rfl rfl (by kernel_rfl) (by kernel_rfl) (by kernel_rfl) (PQ.block (PQ.next (PQ.next (PQ.block (PQ.next PQ.body))))) ?_
    refine D.take 13 (y_fpart rfl Tb.fo180_1 rfl) rfl rfl rfl rfl (by kernel_rfl) (by kernel_rfl) (by kernel_rfl) (PQ.block (PQ.next (PQ.next (PQ.block (PQ.next PQ.body))))) ?_
    refine D.take 14 (y_fldA (vs := hc t.2) tcl t rfl Tb.ag30 (by rw [hcl]; exact Tb.sz30) rfl ht (by rw [hcl]; decide) (show (hc t.2).take _ = _ by rw [List.take_length]) hc0 (fun w hs => hA w hs.fact)) rfl rfl rfl rfl (by kernel_rfl) (by kernel_rfl) (by kernel_rfl) (PQ.block (PQ.next (PQ.next (PQ.block (PQ.next PQ.body))))) ?_
    refine D.ofJ 15 (by kernel_rfl) rfl fun KhK9 hK9 => ?_
    refine J.bs1 rfl rfl rfl rfl rfl Tryd.underlying22 Tb.zz30 Tb.sz30 rfl (by decide) rfl (hcl _) fun g26 => ?_
    refine J.nil ?_
    refine hK9 _ _ _ (fun w hs => hs.mask [false, false, true, false]) ?_
    refine D.ofJ 16 (by kernel_rfl) rfl fun KhK11 hK11 => ?_
    refine J.append 1 rfl rfl rfl rfl rfl rfl Tryd.underlying22 Tb.zz30 Tb.sz30 Tb.by30 rfl (by decide) rfl (show (hc t.2).length = 1 * 32 by rw [hcl]) (fun w hs => .inr ⟨rfl, At.box (hs.get (i := 0) rfl)⟩) (hc1 _) (by rw [hlm]; omega) (by decide) (show _ = ((ts.take (i + 1)).map Prod.snd).length by rw [hmap, List.length_append]; rfl) (show _ = hcs ((ts.take (i + 1)).map Prod.snd) by rw [hmap, hcs_append, hcs_one]) fun A2 k2 _ hk2 => ?_
    refine J.nil ?_
    refine hK11 _ _ _ (fun w hs => hs.mask [false, false, true, false]) ?_
    refine D.ofJ0 18 (by kernel_rfl) rfl (by kernel_rfl) fun KhK12 hK12 => ?_
    refine J.store1 2 rfl rfl rfl rfl rfl rfl rfl Tb.sz3 (by first | (simp; done) | exact Nat.le_of_ble_eq_true rfl) rfl ?_
    refine J.nil ?_
    refine hK12 _ _ _ ?_
    refine D0.ofJ 19 (by kernel_rfl) rfl (by kernel_rfl) fun KhK13 hK13 => ?_
    refine J.yl (y_fb rfl Tb.fo87_1 rfl) rfl rfl rfl ?_
    refine J.nil ?_
    refine hK13 _ _ _ ?_
    refine D0.ofJ 20 (by kernel_rfl) rfl (by kernel_rfl) fun KhK14 hK14 => ?_
    refine J.store1 2 rfl rfl rfl rfl rfl rfl rfl Tb.sz22 (by first | (simp; done) | exact Nat.le_of_ble_eq_true rfl) rfl ?_
    refine J.nil ?_
    refine hK14 _ _ _ ?_
    refine D0.done (by kernel_rfl) ?_
    refine JQ.block_normal (JQ.next hK8 ?_)
    refine JC.region ?_
    refine J.yl (y_move rfl rfl) rfl rfl rfl ?_
    refine J.yl (y_add64 rfl rfl rfl (by omega)) rfl rfl rfl ?_
    refine J.yl (y_assign rfl rfl) rfl rfl rfl ?_
    refine J.nil ?_
    refine JQ.drop ?_
    refine againK5 (i + 1, A2, k2) _ ⟨by dsimp only; omega, hk2⟩ (by dsimp only; omega) (okE_cons (slotI (by dsimp only; omega)) okE_nil) (okE_cons rfl (okE_cons rfl (okE_cons rfl okE_nil)))
  · have hfin : ts.take i = ts := List.take_of_length_le (by omega)
    rw [hfin] at hk1 ⊢
    refine JC.exit ?_
    refine JQ.then_exit (JQ.then_exit (JQ.block_hit (JQ.next hK3 ?_)))
    refine JC.seq fun K15 hK15 => ?_
    refine JC.region ?_
    refine J.yl (y_lbW 1 rfl Tb.ag87 Tb.sz87 (by first | (simp [length_wl]; done) | rfl) rfl rfl) rfl rfl rfl ?_
    refine J.storeW 2 rfl rfl rfl rfl rfl rfl rfl Tb.sz87 (by first | (simp [length_wl]; done) | rfl) (by first | (simp [length_wl]; done) | rfl) (by first | exact u32s1 _ | exact one_vc _ | (simp; done) | (intro u hu; simp only [List.mem_cons, List.not_mem_nil, or_false] at hu; rcases hu with rfl | rfl <;> rfl)) ?_
    refine J.nil ?_
    refine JQ.next hK15 ?_
    refine JC.ret ?_
    exact ret1 rfl (r_cellA 2 rfl rfl Tb.ag87 Tb.sz87) fun w hs => Post.of_st hs (A1, k1) hk1 (.cons_cons _ (List.nil_sublist _)) fun _ _ => trivial
/-- Numbers, of one's own. -/
abbrev OwnN (l : List Nat) : Option Addr × Nat → List Chunk := fun i => [.row (.slice i.1 l.length i.2) 3 1 l.length (ints l)]
theorem parts_fn (a n : Nat) (x y : Int) (hx : x = a) (hy : y = a + n) (hN : n ≤ 100000) (ha : a ≤ 100000) :
    FnSpec Tryd.prog Gl 130 [.int .i64 x, .int .i64 y] [] F (ι := Option Addr × Nat) (fun q => (pts a n).length ≤ q.2) (fun q => .slice q.1 (pts a n).length q.2) (OwnN (pts a n)) (fun _ _ => True) := by
  subst hx hy
  refine FnSpec.intro Tryd.func130 rfl Tryd.ntmps130 rfl fun X M w => ?_
  refine JC.seq fun K1 hK1 => ?_
  refine JC.region ?_
  refine J.yl (y_assign rfl rfl) rfl rfl rfl ?_
  refine J.nil ?_
  refine JQ.next hK1 ?_
  refine JC.seq fun K2 hK2 => ?_
  refine JC.region ?_
  refine J.yl (y_assign rfl rfl) rfl rfl rfl ?_
  refine J.nil ?_
  refine JQ.next hK2 ?_
  refine JC.seq fun K3 hK3 => ?_
  refine JC.block ?_
  refine JC.st ?_ (fun w hs => hs.nilrow 3 1)
  refine JC.loopE (σ := Nat × List Nat × Option Addr × Nat) (M := fun q => [(0, .int .i64 (q.1 : Int)), (5, .slice q.2.2.1 q.2.1.length q.2.2.2)]) (kp := [(1, _)]) (hkp := (okE_cons rfl okE_nil)) (Dc := fun q => OwnN q.2.1 (q.2.2.1, q.2.2.2)) (H := fun _ => F) (Ψ := fun q => q.1 ≤ a + n ∧ pts a n = q.2.1 ++ pts q.1 (a + n - q.1) ∧ q.2.1.length ≤ q.2.2.2 ∧ q.2.1.length + (a + n - q.1) ≤ 100000) (μ := fun q => a + n - q.1) (a, [], none, 0) ⟨by dsimp only; omega, by dsimp only; rw [Nat.add_sub_cancel_left]; rfl, Nat.le_refl _, by dsimp only; rw [List.length_nil]; omega⟩ (okE_cons rfl (okE_cons rfl okE_nil)) (fun w h => h) (fun sK4 hK4 K4 againK4 => ?_)
  obtain ⟨z, o, A1, k1⟩ := sK4
  dsimp only at hK4 againK4 ⊢
  obtain ⟨hz, hp, hk1, ho⟩ := hK4
  refine JC.seq fun K5 hK5 => ?_
  refine JC.seq fun K6 hK6 => ?_
  refine JC.region ?_
  refine J.yl (y_move rfl rfl) rfl rfl rfl ?_
  refine J.yl (y_move rfl rfl) rfl rfl rfl ?_
  refine J.yl (y_lt rfl rfl rfl) rfl rfl rfl ?_
  refine J.nil ?_
  refine JQ.next hK6 ?_
  refine JC.condp rfl (fun h1 => ?_) (fun h1 => ?_)
  · obtain ⟨m, hm⟩ : ∃ m, a + n - z = m := ⟨_, rfl⟩
    rw [hm] at hp
    have hsp := stp_pos z m (by omega)
    obtain ⟨js, es, hs1, hs2, hs3⟩ := stp_spec m z m (Nat.le_refl _) (by omega)
    have fin : ∀ i, 2 ^ i ≤ m → z % 2 ^ i = 0 → ¬ (2 * 2 ^ i ≤ m ∧ z % (2 * 2 ^ i) = 0) → stp z m = 2 ^ i := fun i p q r => by
      rw [es, stp_uniq ⟨hs1, hs2, hs3⟩ ⟨p, q, r⟩]
    refine JC.skip ?_
    refine JQ.next hK5 ?_
    refine JC.block ?_
    refine JC.seq fun K7 hK7 => ?_
    refine JC.region ?_
    refine J.yl (y_assign rfl rfl) rfl rfl rfl ?_
    refine J.nil ?_
    refine JQ.next hK7 ?_
    refine JC.seq fun K8 hK8 => ?_
    refine JC.seq fun K9 hK9 => ?_
    refine JC.region ?_
    refine J.yl (y_assign rfl rfl) rfl rfl rfl ?_
    refine J.nil ?_
    refine JQ.next hK9 ?_
    refine JC.block ?_
    refine JC.loopE (σ := Nat × Nat) (M := fun q => [(6, .int .i64 ((2 ^ q.2 : Nat) : Int)), (7, .int .i64 ((2 ^ q.1 : Nat) : Int))]) (kp := [(0, _), (1, _), (5, _)]) (hkp := (okE_cons rfl (okE_cons rfl (okE_cons rfl okE_nil)))) (Dc := fun _ => OwnN o (A1, k1)) (H := fun _ => F) (Ψ := fun q => 2 ^ q.1 ≤ 2 * m ∧ (q.1 = 0 → q.2 = 0) ∧ (0 < q.1 → q.2 < q.1 ∧ 2 ^ q.2 ≤ m ∧ z % 2 ^ q.2 = 0 ∧ (q.2 + 1 < q.1 → z % 2 ^ (q.2 + 1) ≠ 0))) (μ := fun q => 2 * m - 2 ^ q.1) (0, 0) ⟨by dsimp only; rw [Nat.pow_zero]; omega, fun _ => rfl, fun h => absurd h (by decide)⟩ (okE_cons rfl (okE_cons rfl okE_nil)) (fun w h => h) (fun sK10 hK10 K10 againK10 => ?_)
    obtain ⟨i, b⟩ := sK10
    dsimp only at hK10 againK10 ⊢
    obtain ⟨hi, hb0, hb⟩ := hK10
    refine JC.seq fun K11 hK11 => ?_
    refine JC.seq fun K12 hK12 => ?_
    refine JC.region ?_
    refine J.yl (y_move rfl rfl) rfl rfl rfl ?_
    refine J.yl (y_move rfl rfl) rfl rfl rfl ?_
    refine J.yl (y_move rfl rfl) rfl rfl rfl ?_
    refine J.yl (y_sub64 rfl rfl rfl (by omega)) rfl rfl rfl ?_
    have hpi : 0 < 2 ^ i := Nat.pow_pos (by decide)
    have hsi : 2 ^ (i + 1) = 2 ^ i * 2 := Nat.pow_succ 2 i
    refine J.yl (y_le rfl rfl rfl) rfl rfl rfl ?_
    refine J.nil ?_
    refine JQ.next hK12 ?_
    refine JC.condp rfl (fun h2 => ?_) (fun h2 => ?_)
    · refine JC.skip ?_
      refine JQ.next hK11 ?_
      refine JC.seq fun K13 hK13 => ?_
      refine JC.block ?_
      refine JC.seq fun K14 hK14 => ?_
      refine JC.region ?_
      refine J.yl (y_move rfl rfl) rfl rfl rfl ?_
      refine J.yl (y_move rfl rfl) rfl rfl rfl ?_
      refine J.yl (y_remN z (2 ^ i) rfl rfl rfl rfl rfl hpi) rfl rfl rfl ?_
      refine J.yl (y_eq rfl rfl rfl) rfl rfl rfl ?_
      refine J.nil ?_
      refine JQ.next hK14 ?_
      refine JC.condp rfl (fun h3 => ?_) (fun h3 => ?_)
      · refine JC.region ?_
        refine J.yl (y_move rfl rfl) rfl rfl rfl ?_
        refine J.yl (y_assign rfl rfl) rfl rfl rfl ?_
        refine J.nil ?_
        refine JQ.block_normal (JQ.next hK13 ?_)
        refine JC.region ?_
        refine J.yl (y_move rfl rfl) rfl rfl rfl ?_
        refine J.yl (y_mul64 rfl rfl rfl (by omega)) rfl rfl rfl ?_
        refine J.yl (y_assign rfl rfl) rfl rfl rfl ?_
        refine J.nil ?_
        refine againK10 (i + 1, i) _ ⟨by dsimp only; omega, fun h => absurd h (Nat.succ_ne_zero _), fun _ => ⟨by dsimp only; omega, by dsimp only; omega, by dsimp only; omega, fun h => absurd h (by dsimp only; omega)⟩⟩ (by dsimp only; omega) (okE_cons rfl (okE_cons (slotI (by dsimp only; omega)) okE_nil)) (okE_cons rfl (okE_cons rfl (okE_cons rfl okE_nil)))
      · have hne : z % 2 ^ i ≠ 0 := by omega
        have hi0 : 0 < i := by
          rcases Nat.eq_zero_or_pos i with h | h
          · subst h; rw [Nat.pow_zero, Nat.mod_one] at hne; exact absurd rfl hne
          · exact h
        obtain ⟨hb1, hb2, hb3, hb4⟩ := hb hi0
        have hbn : b + 1 < i + 1 → z % 2 ^ (b + 1) ≠ 0 := fun h => by
          rcases Nat.lt_or_ge (b + 1) i with h' | h'
          · exact hb4 h'
          · rw [show b + 1 = i by omega]; exact hne
        refine JC.skip ?_
        refine JQ.block_normal (JQ.next hK13 ?_)
        refine JC.region ?_
        refine J.yl (y_move rfl rfl) rfl rfl rfl ?_
        refine J.yl (y_mul64 rfl rfl rfl (by omega)) rfl rfl rfl ?_
        refine J.yl (y_assign rfl rfl) rfl rfl rfl ?_
        refine J.nil ?_
        refine againK10 (i + 1, b) _ ⟨by dsimp only; omega, fun h => absurd h (Nat.succ_ne_zero _), fun _ => ⟨by dsimp only; omega, hb2, hb3, hbn⟩⟩ (by dsimp only; omega) (okE_cons rfl (okE_cons (slotI (by dsimp only; omega)) okE_nil)) (okE_cons rfl (okE_cons rfl (okE_cons rfl okE_nil)))
    · have hi0 : 0 < i := by
        rcases Nat.eq_zero_or_pos i with h | h
        · subst h; rw [Nat.pow_zero] at h2; omega
        · exact h
      obtain ⟨hb1, hb2, hb3, hb4⟩ := hb hi0
      have hsb : 2 ^ (b + 1) = 2 ^ b * 2 := Nat.pow_succ 2 b
      have hfin : stp z m = 2 ^ b := fin b hb2 hb3 (fun h => by
        rcases Nat.lt_or_ge (b + 1) i with h' | h'
        · exact hb4 h' (by rw [hsb, Nat.mul_comm]; exact h.2)
        · have e : b + 1 = i := by omega
          rw [← e, hsb] at h2
          omega)
      have hst : pts z m = 2 ^ b :: pts (z + 2 ^ b) (m - 2 ^ b) := by rw [pts_step (by omega), hfin]
      have hpb : 0 < 2 ^ b := Nat.pow_pos (by decide)
      refine JC.exit ?_
      refine JQ.then_exit (JQ.then_exit (JQ.block_hit (JQ.next hK8 ?_)))
      refine JC.seq fun K15 hK15 => ?_
      refine JC.region ?_
      refine J.yl (y_move rfl rfl) rfl rfl rfl ?_
      refine J.yl (y_move rfl rfl) rfl rfl rfl ?_
      refine J.bs1 rfl rfl rfl rfl rfl Tryd.underlying174 Tb.zz3 Tb.sz3 rfl (by decide) rfl rfl fun g25 => ?_
      refine J.append 1 rfl rfl rfl rfl rfl rfl Tryd.underlying174 Tb.zz3 Tb.sz3 Tb.by3 rfl (by decide) rfl rfl (fun w hs => .inr ⟨rfl, At.box (hs.get (i := 0) rfl)⟩) (one1 rfl) (by omega) (by decide) (show _ = (o ++ [2 ^ b]).length by simp) (show _ = ints (o ++ [2 ^ b]) by simp [ints]) fun A k hAx hkx => ?_
      refine J.drop ?_
      refine J.yl (y_assign rfl rfl) rfl rfl rfl ?_
      refine J.nil ?_
      refine JQ.next hK15 ?_
      refine JC.region ?_
      refine J.yl (y_move rfl rfl) rfl rfl rfl ?_
      refine J.yl (y_move rfl rfl) rfl rfl rfl ?_
      refine J.yl (y_add64 rfl rfl rfl (by omega)) rfl rfl rfl ?_
      refine J.yl (y_assign rfl rfl) rfl rfl rfl ?_
      refine J.nil ?_
      refine JQ.block_normal ?_
      refine againK4 (z + 2 ^ b, o ++ [2 ^ b], A, k) _ ⟨by dsimp only; omega, by dsimp only; rw [hp, hst, List.append_assoc, show a + n - (z + 2 ^ b) = m - 2 ^ b by omega]; rfl, hkx, by dsimp only; rw [List.length_append, List.length_singleton]; omega⟩ (by dsimp only; omega) (okE_cons (slotI (by dsimp only; omega)) (okE_cons rfl okE_nil)) (okE_cons rfl okE_nil)
  · have hfin : pts a n = o := by rw [hp, show a + n - z = 0 by omega, pts_zero, List.append_nil]
    refine JC.exit ?_
    refine JQ.then_exit (JQ.then_exit (JQ.block_hit (JQ.next hK3 ?_)))
    refine JC.seq fun K17 hK17 => ?_
    refine JC.region ?_
    refine J.yl (y_move rfl rfl) rfl rfl rfl ?_
    refine J.yl (y_assign rfl rfl) rfl rfl rfl ?_
    refine J.nil ?_
    refine JQ.next hK17 ?_
    refine JC.ret ?_
    exact ret1 rfl (r_tmp rfl) fun w hs => by rw [hfin]; exact Post.of_st hs (A1, k1) hk1 (List.Sublist.refl _) fun _ _ => trivial
end Go.Proofs.YtjkfeonbioccmaaDoor
namespace Go.Proofs.YtjkfeonbioccmaaDoor
open Go Go.Sx Go.RowKit
set_option linter.unusedVariables false
set_option linter.unusedSimpArgs false
set_option maxRecDepth 100000
set_option maxHeartbeats 4000000
variable {Gl F : World → Prop}
theorem sum_pw : ∀ (f p n : Nat), n ≤ f → (pw p n).sum = p * n := by
  intro f
  induction f with
  | zero =>
    intro p n h
    have h0 : n = 0 := by omega
    subst h0
    rw [pw_zero]; rfl
  | succ f ih =>
    intro p n h
    by_cases h0 : n = 0
    · subst h0; rw [pw_zero]; rfl
    · have hd : n / 2 ≤ f := by omega
      have e : 2 * p * (n / 2) = p * (2 * (n / 2)) := by rw [Nat.mul_comm 2 p, Nat.mul_assoc]
      by_cases ho : n % 2 = 1
      · rw [pw_odd ho, List.sum_cons, ih _ _ hd, e, Nat.add_comm, ← Nat.mul_succ]
        congr 1; omega
      · rw [pw_even ho, ih _ _ hd, e]
        congr 1; omega
abbrev trs (z : Nat) (r : List H) : List (Nat × H) := (pw 1 z).zip r
theorem trs_len (z : Nat) (r : List H) (h : r.length = ones z) : (trs z r).length = ones z := by
  rw [trs, List.length_zip, pw_len _ _ _ (Nat.le_refl _), h, Nat.min_self]
theorem trs_sum (z : Nat) (r : List H) (h : r.length = ones z) : sumT (trs z r) = z := by
  have hl := pw_len z 1 z (Nat.le_refl _)
  unfold sumT
  rw [trs, List.map_fst_zip (by omega), sum_pw z 1 z (Nat.le_refl _), Nat.one_mul]
theorem trs_snd (z : Nat) (r : List H) (h : r.length = ones z) : (trs z r).reverse.map Prod.snd = r.reverse := by
  have hl := pw_len z 1 z (Nat.le_refl _)
  rw [trs, List.map_reverse, List.map_snd_zip (by omega)]
theorem sumT_rev (l : List (Nat × H)) : sumT l.reverse = sumT l := by
  unfold sumT
  rw [List.map_reverse, List.sum_reverse]
theorem open_fnE (s : Nat) (rs : List H) (T : List (Nat × H)) (A : Option Addr) (n k : Nat) (hn : rs.length = n) (ho : n = ones s) (hS : s ≤ 4096) (hT : (trs s rs).reverse = T) (hA : ∀ w, F w → Sl w A (hcs rs.reverse)) :
    FnSpec Tryd.prog Gl 132 [.agg #[.int .i64 (s : Int), .slice A n k]] [] F (ι := Option Addr × Nat) (fun q => T.length ≤ q.2) (fun q => .slice q.1 T.length q.2) (OwnT T) (fun _ _ => True) := by
  have e : opn s rs 0 = T := by rw [opn_zero s rs (by omega), hT]
  subst e; exact open_fn s rs A n k hn ho hS hA
theorem join_fnE (p0 : Nat) (h0 : H) (l0 T : List (Nat × H)) (A0 : Option Addr) (k0 : Nat) (hk0 : ((p0, h0) :: l0).reverse.length ≤ k0) (hs0 : p0 + sumT l0 ≤ 100000) (hl0 : l0.length ≤ 1000) (hT : (addT p0 h0 l0).reverse = T) :
    FnSpec Tryd.prog Gl 133 [.slice A0 ((p0, h0) :: l0).reverse.length k0] (OwnT ((p0, h0) :: l0).reverse (A0, k0)) F (ι := Option Addr × Nat) (fun q => T.length ≤ q.2) (fun q => .slice q.1 T.length q.2) (OwnT T) (fun _ _ => True) := by
  subst hT; exact join_fn p0 h0 l0 A0 k0 hk0 hs0 hl0
theorem close_fnE (ts : List (Nat × H)) (z : Nat) (L : List H) (A : Option Addr) (n k : Nat) (hn : ts.length = n) (hz : sumT ts = z) (hL : ts.map Prod.snd = L) (hs : z ≤ 100000) (hN : n ≤ 10000) (hA : ∀ w, F w → Sl w A (tcs ts)) :
    FnSpec Tryd.prog Gl 134 [.slice A n k] [] F (ι := Option Addr × Nat) (fun q => L.length ≤ q.2) (fun q => .agg #[.int .i64 (z : Int), .slice q.1 L.length q.2]) (OwnL L) (fun _ _ => True) := by
  subst hz hL; exact close_fn ts A n k hn hs hN hA
theorem rext_fn (s : Int) (rs l : List H) (A B : Option Addr) (n k m km : Nat) (hn : rs.length = n) (hm : l.length = m) (hN : n ≤ 1000000) (hMb : m ≤ 1000000) (hA : ∀ w, F w → Sl w A (hcs rs.reverse)) (hB : ∀ w, F w → Sl w B (hcs l)) :
    FnSpec Tryd.prog Gl 65 [.agg #[.int .i64 s, .slice A n k], .slice B m km] [] F (ι := Option Addr × Nat) (fun q => (xL s rs l).length ≤ q.2) (fun q => .tuple #[.agg #[.int .i64 (xS s rs l), .slice q.1 (xL s rs l).length q.2], .int .i64 (xE s rs l)]) (OwnL (xL s rs l)) (fun _ _ => True) := by
  have hvr : vld s rs.reverse = vld s rs := vld_len _ _ _ (List.length_reverse ..)
  refine FnSpec.intro Tryd.func65 rfl Tryd.ntmps65 rfl fun X M w => ?_
  refine JC.seq fun K1 hK1 => ?_
  refine JC.region ?_
  refine J.box rfl rfl rfl rfl rfl rfl fun g2 => ?_
  refine J.alloc rfl rfl rfl rfl Tb.zz87 rfl fun g4 => ?_
  refine J.yl (y_assign rfl rfl) rfl rfl rfl ?_
  refine J.nil ?_
  refine JQ.next hK1 ?_
  refine JC.seq fun K2 hK2 => ?_
  refine JC.seq fun K3 hK3 => ?_
  refine JC.region ?_
  refine J.yl (y_lbW 1 rfl Tb.ag87 Tb.sz87 (by first | (simp [length_wl]; done) | rfl) rfl rfl) rfl rfl rfl ?_
  refine J.callv rfl rfl rfl rfl Tb.cl70 rfl ((rvalid_fn s rs.reverse A n k (by rw [List.length_reverse]; exact hn)).to (by rw [hvr])) ?_
  refine J.yl (y_not rfl rfl) rfl rfl rfl ?_
  refine J.nil ?_
  refine JQ.next hK3 ?_
  refine JC.cond rfl (fun h1 => ?_) (fun h1 => ?_)
  · have hf : vld s rs = false := by simpa using h1
    have e1 : xE s rs l = 2 := by rw [xE, if_neg (by rw [hf]; decide)]
    have hno : ¬ xOk s rs l := fun h => by have := h.1; rw [hf] at this; exact absurd this (by decide)
    have e2 : xS s rs l = 0 := if_neg hno
    have e3 : xL s rs l = [] := if_neg hno
    refine JC.seq fun K4 hK4 => ?_
    refine JC.region ?_
    refine J.yl (y_buildS (pl := [(0, 1), (1, 1)]) (zs := [.int .i64 0, .slice none 0 0]) rfl (by kernel_rfl) (by kernel_rfl) rfl fill_R0) rfl rfl rfl ?_
    refine J.storeW 0 rfl rfl rfl rfl rfl rfl rfl Tb.sz87 (by first | (simp [length_wl]; done) | rfl) (by first | (simp [length_wl]; done) | rfl) (by first | exact u32s1 _ | exact one_vc _ | (simp; done) | (intro u hu; simp only [List.mem_cons, List.not_mem_nil, or_false] at hu; rcases hu with rfl | rfl <;> rfl)) ?_
    refine J.yl (y_assign rfl rfl) rfl rfl rfl ?_
    refine J.nil ?_
    refine JQ.next hK4 ?_
    refine JC.ret ?_
    refine JQ.then_ret ?_
    refine JQ.st ?_ (fun w hs => hs.nilrow 30 32)
    exact ret2 rfl (r_cellA 1 rfl rfl Tb.ag87 Tb.sz87) (r_tmp rfl) fun w hs => by rw [e1, e2, e3]; exact Post.of_st hs (none, 0) (Nat.le_refl _) (.cons_cons _ (List.nil_sublist _)) fun _ _ => trivial
  · have ht : vld s rs = true := by simpa using h1
    have hv3 : 0 ≤ s ∧ s ≤ 4096 ∧ rs.length = ones s.toNat := of_decide_eq_true ht
    obtain ⟨s, rfl⟩ : ∃ q : Nat, s = q := ⟨s.toNat, by omega⟩
    rw [Int.toNat_natCast] at hv3
    refine JC.skip ?_
    refine JQ.next hK2 ?_
    refine JC.seq fun K5 hK5 => ?_
    refine JC.seq fun K6 hK6 => ?_
    refine JC.region ?_
    refine J.yl (y_fb rfl Tb.fo87_0 rfl) rfl rfl rfl ?_
    refine J.yl (y_lb 1 rfl Tb.ag3 rfl rfl rfl) rfl rfl rfl ?_
    refine J.yl (y_move rfl rfl) rfl rfl rfl ?_
    refine J.yl (y_len rfl Tryd.underlying22 rfl) rfl rfl rfl ?_
    refine J.yl (y_add64 rfl rfl rfl (by omega)) rfl rfl rfl ?_
    refine J.yl (y_gt rfl rfl rfl) rfl rfl rfl ?_
    refine J.nil ?_
    refine JQ.next hK6 ?_
    refine JC.condp rfl (fun h2 => ?_) (fun h2 => ?_)
    · have e1 : xE s rs l = 60 := by rw [xE, if_pos ht, if_pos (by omega)]
      have hno : ¬ xOk s rs l := fun h => h.2 (by omega)
      have e2 : xS s rs l = 0 := if_neg hno
      have e3 : xL s rs l = [] := if_neg hno
      refine JC.seq fun K7 hK7 => ?_
      refine JC.region ?_
      refine J.yl (y_buildS (pl := [(0, 1), (1, 1)]) (zs := [.int .i64 0, .slice none 0 0]) rfl (by kernel_rfl) (by kernel_rfl) rfl fill_R0) rfl rfl rfl ?_
      refine J.storeW 0 rfl rfl rfl rfl rfl rfl rfl Tb.sz87 (by first | (simp [length_wl]; done) | rfl) (by first | (simp [length_wl]; done) | rfl) (by first | exact u32s1 _ | exact one_vc _ | (simp; done) | (intro u hu; simp only [List.mem_cons, List.not_mem_nil, or_false] at hu; rcases hu with rfl | rfl <;> rfl)) ?_
      refine J.yl (y_assign rfl rfl) rfl rfl rfl ?_
      refine J.nil ?_
      refine JQ.next hK7 ?_
      refine JC.ret ?_
      refine JQ.then_ret ?_
      refine JQ.st ?_ (fun w hs => hs.nilrow 30 32)
      exact ret2 rfl (r_cellA 1 rfl rfl Tb.ag87 Tb.sz87) (r_tmp rfl) fun w hs => by rw [e1, e2, e3]; exact Post.of_st hs (none, 0) (Nat.le_refl _) (.cons_cons _ (List.nil_sublist _)) fun _ _ => trivial
    · have e1 : xE s rs l = 0 := by rw [xE, if_pos ht, if_neg (by omega)]
      have hok : xOk s rs l := ⟨ht, by omega⟩
      have e2 : xS s rs l = ((s + m : Nat) : Int) := by rw [xS, if_pos hok, hm]; omega
      have e3 : xL s rs l = (ext s rs l).2.reverse := by rw [xL, if_pos hok, Int.toNat_natCast]
      have hsm : s + m ≤ 4096 := by omega
      refine JC.skip ?_
      refine JQ.next hK5 ?_
      refine JC.seq fun K8 hK8 => ?_
      refine JC.region ?_
      refine J.yl (y_lbW 1 rfl Tb.ag87 Tb.sz87 (by first | (simp [length_wl]; done) | rfl) rfl rfl) rfl rfl rfl ?_
      refine J.callR (Cin := []) rfl rfl rfl rfl Tb.cl132 rfl rfl (open_fnE s rs _ A n k hn (by omega) (by omega) rfl (fun w h => hA w h.1)) ?_
      rintro ⟨A2, k2⟩ hk2
      refine J.yl (y_assign rfl rfl) rfl rfl rfl ?_
      refine J.nil ?_
      refine JQ.next hK8 ?_
      refine JC.seq fun K9 hK9 => ?_
      refine JC.seq fun K10 hK10 => ?_
      refine JC.region ?_
      refine J.yl (y_assign rfl rfl) rfl rfl rfl ?_
      refine J.nil ?_
      refine JQ.next hK10 ?_
      refine JC.block ?_
      refine JC.loopE (σ := Nat × Nat × List H × Option Addr × Nat) (M := fun q => [(6, .slice q.2.2.2.1 (trs q.2.1 q.2.2.1).reverse.length q.2.2.2.2), (7, .int .i64 (q.1 : Int))]) (kp := [(1, _), (2, _), (4, _), (5, _)]) (hkp := (okE_cons rfl (okE_cons rfl (okE_cons rfl (okE_cons rfl okE_nil))))) (Dc := fun q => OwnT (trs q.2.1 q.2.2.1).reverse (q.2.2.2.1, q.2.2.2.2) ++ [.box g4 87 [.int .i64 0, .slice none 0 0], .box g2 87 [.int .i64 (s : Int), .slice A n k]]) (H := fun _ => F) (Ψ := fun q => q.1 ≤ m ∧ (q.2.1, q.2.2.1) = ext s rs (l.take q.1) ∧ (trs q.2.1 q.2.2.1).reverse.length ≤ q.2.2.2.2 ∧ q.2.1 = s + q.1 ∧ q.2.2.1.length = ones q.2.1) (μ := fun q => m - q.1) (0, s, rs, A2, k2) ⟨Nat.zero_le _, rfl, hk2, by simp, hv3.2.2⟩ (okE_cons rfl (okE_cons rfl okE_nil)) (fun w h => h) (fun sK11 hK11 K11 againK11 => ?_)
      obtain ⟨i, z, r, A3, k3⟩ := sK11
      dsimp only at hK11 againK11 ⊢
      obtain ⟨hi, he, hk3, hz, hro⟩ := hK11
      refine JC.seq fun K12 hK12 => ?_
      refine JC.seq fun K13 hK13 => ?_
      refine JC.region ?_
      refine J.yl (y_move rfl rfl) rfl rfl rfl ?_
      refine J.yl (y_move rfl rfl) rfl rfl rfl ?_
      refine J.yl (y_len rfl Tryd.underlying22 rfl) rfl rfl rfl ?_
      refine J.yl (y_lt rfl rfl rfl) rfl rfl rfl ?_
      refine J.nil ?_
      refine JQ.next hK13 ?_
      have hsum := trs_sum z r hro
      have htl := trs_len z r hro
      have hb2 := ones_le z (by omega)
      refine JC.condp rfl (fun h3 => ?_) (fun h3 => ?_)
      · obtain ⟨x, hx⟩ : ∃ x, l[i]? = some x := ⟨_, List.getElem?_eq_getElem (show i < l.length by omega)⟩
        have hnext : ext s rs (l.take (i + 1)) = (z + 1, carry z r x) := by
          rw [List.take_add_one, hx, Option.toList_some, ext_snoc, ← he]
        have hclen := carry_len z z r x (Nat.le_refl _) hro
        have hadd : (addT 1 x (trs z r)).reverse = (trs (z + 1) (carry z r x)).reverse := by rw [trs, addT_carry z 1 z r x (by decide) (Nat.le_refl _) hro]
        refine JC.skip ?_
        refine JQ.next hK12 ?_
        refine JC.seq fun K14 hK14 => ?_
        refine JC.block ?_
        refine JC.drawM [false, false, false] (by kernel_rfl) ?_
        refine D.take 0 (y_move rfl rfl) rfl rfl rfl rfl (by kernel_rfl) (by kernel_rfl) (by kernel_rfl) (PQ.block (PQ.next (PQ.next (PQ.block (PQ.next PQ.body))))) ?_
        refine D.take 2 (y_move rfl rfl) rfl rfl rfl rfl (by kernel_rfl) (by kernel_rfl) (by kernel_rfl) (PQ.block (PQ.next (PQ.next (PQ.block (PQ.next PQ.body))))) ?_
        refine D.take 3 (y_move rfl rfl) rfl rfl rfl rfl (by kernel_rfl) (by kernel_rfl) (by kernel_rfl) (PQ.block (PQ.next (PQ.next (PQ.block (PQ.next PQ.body))))) ?_
        refine D.take 4 (y_hidx i rfl Tryd.underlying22 Tb.sz30 rfl rfl rfl hm (by omega) (fun w hs => hB w hs.fact)) rfl rfl rfl rfl (by kernel_rfl) (by kernel_rfl) (by kernel_rfl) (PQ.block (PQ.next (PQ.next (PQ.block (PQ.next PQ.body))))) ?_
        refine D.take 5 (y_hld x rfl Tb.ag30 Tb.sz30 rfl hx (fun w hs => hB w hs.fact)) rfl rfl rfl rfl (by kernel_rfl) (by kernel_rfl) (by kernel_rfl) (PQ.block (PQ.next (PQ.next (PQ.block (PQ.next PQ.body))))) ?_
        refine D.take 6 (y_buildS (cs := tc (1, x)) (pl := [(0, 1), (1, 32)]) (zs := .int .i64 0 :: hc H.zero) rfl (by kernel_rfl) (by kernel_rfl) rfl (fill_T _ _)) rfl rfl rfl rfl (by kernel_rfl) (by kernel_rfl) (by kernel_rfl) (PQ.block (PQ.next (PQ.next (PQ.block (PQ.next PQ.body))))) ?_
        refine D.two 1 7 (by kernel_rfl) ?_ ?_
        · refine DS.ofJ rfl fun KhK16 hK16 => ?_
          refine J.appNilG (tcs (trs z r).reverse) rfl rfl rfl rfl rfl rfl Tryd.underlying176 Tb.zz180 Tb.sz180 Tb.by180 rfl (by decide) (tcs_len _) (fun w hs => strow hs 0 rfl) (tcs1 _) (by rw [List.length_reverse]; omega) (by decide) fun A4 k4 hk4 => ?_
          refine J.nil ?_
          refine hK16 _ _ _ (fun w hs => hs.mask [false, false, false, false]) ?_
          refine D.ofJ 7 (by kernel_rfl) rfl fun KhK17 hK17 => ?_
          refine J.bs1 rfl rfl rfl rfl rfl Tryd.underlying176 Tb.zz180 Tb.sz180 rfl (by decide) rfl (by first | rfl | exact tcl _ | (simp only [List.length_cons, hcl]; done)) fun g34 => ?_
          refine J.nil ?_
          refine hK17 _ _ _ (fun w hs => hs.mask [false, false, false, false, false]) ?_
          refine D.ofJ 8 (by kernel_rfl) rfl fun KhK19 hK19 => ?_
          refine J.appendG 1 rfl rfl rfl rfl rfl rfl Tryd.underlying176 Tb.zz180 Tb.sz180 Tb.by180 rfl (by decide) rfl (show (tc (1, x)).length = 1 * 33 by rw [tcl]) (fun w hs => .inr ⟨rfl, At.box (hs.get (i := 0) rfl)⟩) (by rw [← tcs_one]; exact tcs1 _) (by rw [List.length_reverse]; omega) (by decide) (show _ = ((1, x) :: trs z r).reverse.length by simp) (show _ = tcs ((1, x) :: trs z r).reverse by rw [List.reverse_cons, tcs_app, tcs_one]) fun A5 k5 _ hk5 => ?_
          refine J.nil ?_
          refine hK19 _ _ _ (fun w hs => hs.mask [false, false, false, false, false]) ?_
          refine D.front 1 rfl ?_
          refine D.ofJ 9 (by kernel_rfl) rfl fun KhK21 hK21 => ?_
          refine J.callR (Cin := [_]) rfl rfl rfl rfl Tb.cl133 rfl rfl (join_fnE 1 x (trs z r) _ A5 k5 hk5 (by omega) (by omega) hadd) ?_
          rintro ⟨A6, k6⟩ hk6
          refine J.nil ?_
          refine hK21 _ _ _ (fun w hs => hs.mask [false, false, false, false, false]) ?_
          refine D.take 10 (y_assign rfl rfl) rfl rfl rfl rfl (by kernel_rfl) (by kernel_rfl) (by kernel_rfl) (PQ.block (PQ.next (PQ.next (PQ.block (PQ.next PQ.body))))) ?_
          refine D.done (by kernel_rfl) ?_
          refine JQ.block_normal (JQ.next hK14 ?_)
          refine JC.region ?_
          refine J.yl (y_move rfl rfl) rfl rfl rfl ?_
          refine J.yl (y_add64 rfl rfl rfl (by omega)) rfl rfl rfl ?_
          refine J.yl (y_assign rfl rfl) rfl rfl rfl ?_
          refine J.nil ?_
          refine JQ.front 4 rfl ?_
          refine JQ.front 4 rfl ?_
          refine JQ.front 2 rfl ?_
          refine JQ.keepn 3 ?_
          refine againK11 (i + 1, z + 1, carry z r x, A6, k6) _ ⟨by dsimp only; omega, hnext.symm, hk6, by dsimp only; omega, hclen⟩ (by dsimp only; omega) (okE_cons rfl (okE_cons (slotI (by dsimp only; omega)) okE_nil)) (okE_cons rfl (okE_cons rfl (okE_cons rfl (okE_cons rfl okE_nil))))
        · refine DS.ofJ rfl fun KhK22 hK22 => ?_
          refine J.bs1 rfl rfl rfl rfl rfl Tryd.underlying176 Tb.zz180 Tb.sz180 rfl (by decide) rfl (by first | rfl | exact tcl _ | (simp only [List.length_cons, hcl]; done)) fun g34 => ?_
          refine J.nil ?_
          refine hK22 _ _ _ (fun w hs => hs.mask [false, false, false, false]) ?_
          refine D.ofJ 1 (by kernel_rfl) rfl fun KhK24 hK24 => ?_
          refine J.appNilG (tcs (trs z r).reverse) rfl rfl rfl rfl rfl rfl Tryd.underlying176 Tb.zz180 Tb.sz180 Tb.by180 rfl (by decide) (tcs_len _) (fun w hs => strow hs 1 rfl) (tcs1 _) (by rw [List.length_reverse]; omega) (by decide) fun A4 k4 hk4 => ?_
          refine J.nil ?_
          refine hK24 _ _ _ (fun w hs => hs.mask [false, false, false, false, false]) ?_
          refine D.ofJ 8 (by kernel_rfl) rfl fun KhK26 hK26 => ?_
          refine J.appendG 0 rfl rfl rfl rfl rfl rfl Tryd.underlying176 Tb.zz180 Tb.sz180 Tb.by180 rfl (by decide) rfl (show (tc (1, x)).length = 1 * 33 by rw [tcl]) (fun w hs => .inr ⟨rfl, At.box (hs.get (i := 1) rfl)⟩) (by rw [← tcs_one]; exact tcs1 _) (by rw [List.length_reverse]; omega) (by decide) (show _ = ((1, x) :: trs z r).reverse.length by simp) (show _ = tcs ((1, x) :: trs z r).reverse by rw [List.reverse_cons, tcs_app, tcs_one]) fun A5 k5 _ hk5 => ?_
          refine J.nil ?_
          refine hK26 _ _ _ (fun w hs => hs.mask [false, false, false, false, false]) ?_
          refine D.ofJ 9 (by kernel_rfl) rfl fun KhK28 hK28 => ?_
          refine J.callR (Cin := [_]) rfl rfl rfl rfl Tb.cl133 rfl rfl (join_fnE 1 x (trs z r) _ A5 k5 hk5 (by omega) (by omega) hadd) ?_
          rintro ⟨A6, k6⟩ hk6
          refine J.nil ?_
          refine hK28 _ _ _ (fun w hs => hs.mask [false, false, false, false, false]) ?_
          refine D.take 10 (y_assign rfl rfl) rfl rfl rfl rfl (by kernel_rfl) (by kernel_rfl) (by kernel_rfl) (PQ.block (PQ.next (PQ.next (PQ.block (PQ.next PQ.body))))) ?_
          refine D.done (by kernel_rfl) ?_
          refine JQ.block_normal (JQ.next hK14 ?_)
          refine JC.region ?_
          refine J.yl (y_move rfl rfl) rfl rfl rfl ?_
          refine J.yl (y_add64 rfl rfl rfl (by omega)) rfl rfl rfl ?_
          refine J.yl (y_assign rfl rfl) rfl rfl rfl ?_
          refine J.nil ?_
          refine JQ.front 4 rfl ?_
          refine JQ.front 4 rfl ?_
          refine JQ.front 2 rfl ?_
          refine JQ.keepn 3 ?_
          refine againK11 (i + 1, z + 1, carry z r x, A6, k6) _ ⟨by dsimp only; omega, hnext.symm, hk6, by dsimp only; omega, hclen⟩ (by dsimp only; omega) (okE_cons rfl (okE_cons (slotI (by dsimp only; omega)) okE_nil)) (okE_cons rfl (okE_cons rfl (okE_cons rfl (okE_cons rfl okE_nil))))
      · obtain rfl : i = m := by omega
        rw [List.take_of_length_le (by omega)] at he
        have e4 : xL s rs l = r.reverse := by rw [e3, ← he]
        refine JC.exit ?_
        refine JQ.then_exit (JQ.then_exit (JQ.block_hit (JQ.next hK9 ?_)))
        refine JC.seq fun K29 hK29 => ?_
        refine JC.region ?_
        refine J.yl (y_move rfl rfl) rfl rfl rfl ?_
        refine J.callR (Cin := []) rfl rfl rfl rfl Tb.cl134 rfl rfl (close_fnE (trs z r).reverse z r.reverse A3 _ k3 rfl (by rw [sumT_rev, hsum]) (trs_snd z r hro) (by omega) (by rw [List.length_reverse]; omega) (fun w h => ckrow 0 rfl h)) ?_
        rintro ⟨A4, k4⟩ hk4
        refine J.storeW 2 rfl rfl rfl rfl rfl rfl rfl Tb.sz87 (by first | (simp [length_wl]; done) | rfl) (by first | (simp [length_wl]; done) | rfl) (by first | exact u32s1 _ | exact one_vc _ | (simp; done) | (intro u hu; simp only [List.mem_cons, List.not_mem_nil, or_false] at hu; rcases hu with rfl | rfl <;> rfl)) ?_
        refine J.yl (y_assign rfl rfl) rfl rfl rfl ?_
        refine J.nil ?_
        refine JQ.next hK29 ?_
        refine JC.ret ?_
        exact ret2 rfl (r_cellA 2 rfl rfl Tb.ag87 Tb.sz87) (r_tmp rfl) fun w hs => by rw [e1, e2, e4, ← hz]; exact Post.of_st hs (A4, k4) hk4 (.cons_cons _ (List.nil_sublist _)) fun _ _ => trivial
end Go.Proofs.YtjkfeonbioccmaaDoor
