/- Speculum proofs: contracts: the document's range of leaves, its parts, ranges that are merged. -/
/- Speculum proofs: contracts: the document's parts, ranges that are merged. -/
/- Speculum proofs: the chapter's leaves, in ranges. -/
import Derived.Test.YtjkfeonbioccmaaDoorMm
import Derived.Test.YtjkfeonbioccmaaDoorMk
import Derived.Test.YtjkfeonbioccmaaDoorMi
namespace Go.Proofs.YtjkfeonbioccmaaDoor
open Go Go.Sx Go.RowKit
set_option linter.unusedVariables false
set_option linter.unusedSimpArgs false
set_option maxRecDepth 100000
set_option maxHeartbeats 4000000
variable {Gl F : World → Prop}
theorem fill_Rl (x : Int) : Instr.fill (fun i : Nat => [(0, 1), (1, 1)][i]?) (#[.int .i64 0, .slice none 0 0] : Array Value) [(0, .int .i64 x)] = some #[.int .i64 x, .slice none 0 0] := by
  rw [fill_one (vs := [.int .i64 x]) (off := 0) rfl rfl (Nat.le_of_ble_eq_true rfl), Instr.fill]
  rfl
theorem can_top (l : List H) (h : l.length ≤ 4096) : can l 13 (l.length / 2 ^ 13) = [] := by
  rw [show l.length / 2 ^ 13 = 0 by have : (2 : Nat) ^ 13 = 8192 := rfl; omega, can_zero]
theorem rof_fn (l : List H) (B : Option Addr) (m km : Nat) (hm : l.length = m) (hkm : m ≤ km) (hMb : m ≤ 1000000) (hB : ∀ w, F w → Sl w B (hcs l)) :
    FnSpec Tryd.prog Gl 61 [.slice B m km] [] F (ι := Option Addr × Nat) (fun q => (xL 0 [] l).length ≤ q.2) (fun q => .tuple #[.agg #[.int .i64 (xS 0 [] l), .slice q.1 (xL 0 [] l).length q.2], .int .i64 (xE 0 [] l)]) (OwnL (xL 0 [] l)) (fun _ _ => True) := by
  have hv0 : vld 0 [] = true := by decide
  refine FnSpec.intro Tryd.func61 rfl Tryd.ntmps61 rfl fun X M w => ?_
  refine JC.seq fun K1 hK1 => ?_
  refine JC.region ?_
  refine J.alloc rfl rfl rfl rfl Tb.zz87 rfl fun g2 => ?_
  refine J.yl (y_assign rfl rfl) rfl rfl rfl ?_
  refine J.nil ?_
  refine JQ.next hK1 ?_
  refine JC.seq fun K2 hK2 => ?_
  refine JC.seq fun K3 hK3 => ?_
  refine JC.region ?_
  refine J.yl (y_move rfl rfl) rfl rfl rfl ?_
  refine J.yl (y_len rfl Tryd.underlying22 rfl) rfl rfl rfl ?_
  refine J.yl (y_gt rfl rfl rfl) rfl rfl rfl ?_
  refine J.nil ?_
  refine JQ.next hK3 ?_
  refine JC.condp rfl (fun h1 => ?_) (fun h1 => ?_)
  · have e1 : xE 0 [] l = 60 := by rw [xE, if_pos hv0, if_pos (by omega)]
    have hno : ¬ xOk 0 [] l := fun h => h.2 (by omega)
    have e2 : xS 0 [] l = 0 := if_neg hno
    have e3 : xL 0 [] l = [] := if_neg hno
    refine JC.seq fun K4 hK4 => ?_
    refine JC.region ?_
    refine J.yl (y_buildS (pl := [(0, 1), (1, 1)]) (zs := [.int .i64 0, .slice none 0 0]) rfl (by kernel_rfl) (by kernel_rfl) rfl fill_R0) rfl rfl rfl ?_
    refine J.storeW 0 rfl rfl rfl rfl rfl rfl rfl Tb.sz87 (by first | (simp [length_wl]; done) | rfl) (by first | (simp [length_wl]; done) | rfl) (by first | exact u32s1 _ | exact one_vc _ | (simp; done) | (intro u hu; simp only [List.mem_cons, List.not_mem_nil, or_false] at hu; rcases hu with rfl | rfl <;> rfl)) ?_
    refine J.yl (y_assign rfl rfl) rfl rfl rfl ?_
    refine J.nil ?_
    refine JQ.next hK4 ?_
    refine JC.ret ?_
    refine JQ.then_ret ?_
    refine JQ.st ?_ (fun w hs => hs.nilrow 30 32)
    exact ret2 rfl (r_cellA 1 rfl rfl Tb.ag87 Tb.sz87) (r_tmp rfl) fun w hs => by rw [e1, e2, e3]; exact Post.of_st hs (none, 0) (Nat.le_refl _) (.cons_cons _ (List.nil_sublist _)) fun _ _ => trivial
  · have e1 : xE 0 [] l = 0 := by rw [xE, if_pos hv0, if_neg (by omega)]
    have hok : xOk 0 [] l := ⟨hv0, by omega⟩
    have e2 : xS 0 [] l = (m : Int) := by rw [xS, if_pos hok, hm]; omega
    have hex : (ext 0 [] l).2 = rng l := by
      have := ext_rng l []
      rw [List.nil_append] at this
      exact congrArg Prod.snd this
    have e3 : xL 0 [] l = (can l 0 m).reverse := by rw [xL, if_pos hok, show Int.toNat 0 = 0 from rfl, hex, rng, hm]
    have htop := can_top l (by omega)
    rw [hm] at htop
    have hlen : ∀ e, (can l e (m / 2 ^ e)).length ≤ 127 := fun e => by
      rw [can_len l _ _ _ (Nat.le_refl _)]
      exact ones_le _ (Nat.le_trans (Nat.div_le_self _ _) (by omega))
    refine JC.skip ?_
    refine JQ.next hK2 ?_
    refine JC.seq fun K5 hK5 => ?_
    refine JC.region ?_
    refine J.yl (y_move rfl rfl) rfl rfl rfl ?_
    refine J.yl (y_len rfl Tryd.underlying22 rfl) rfl rfl rfl ?_
    refine J.yl (y_buildS (pl := [(0, 1), (1, 1)]) (zs := [.int .i64 0, .slice none 0 0]) rfl (by kernel_rfl) (by kernel_rfl) rfl (fill_Rl _)) rfl rfl rfl ?_
    refine J.alloc rfl rfl rfl rfl Tb.zz87 rfl fun g4 => ?_
    refine J.storeW 0 rfl rfl rfl rfl rfl rfl rfl Tb.sz87 (by first | (simp [length_wl]; done) | rfl) (by first | (simp [length_wl]; done) | rfl) (by first | exact u32s1 _ | exact one_vc _ | (simp; done) | (intro u hu; simp only [List.mem_cons, List.not_mem_nil, or_false] at hu; rcases hu with rfl | rfl <;> rfl)) ?_
    refine J.nil ?_
    refine JQ.next hK5 ?_
    refine JC.seq fun K6 hK6 => ?_
    refine JC.seq fun K7 hK7 => ?_
    refine JC.region ?_
    refine J.yl (y_assign rfl rfl) rfl rfl rfl ?_
    refine J.nil ?_
    refine JQ.next hK7 ?_
    refine JC.block ?_
    refine JC.st ?_ (fun w hs => hs.nilrow 30 32)
    refine JC.loopE (σ := Nat × List H × (Option Addr × Nat) × (Option Addr × Nat)) (M := fun q => [(0, .slice q.2.2.2.1 q.2.1.length q.2.2.2.2), (5, .int .i64 ((2 ^ q.1 / 2 : Nat) : Int))]) (kp := [(2, _), (3, _), (4, _)]) (hkp := (okE_cons rfl (okE_cons rfl (okE_cons rfl okE_nil)))) (Dc := fun q => [.row (.slice q.2.2.1.1 (can l q.1 (m / 2 ^ q.1)).reverse.length q.2.2.1.2) 30 32 (can l q.1 (m / 2 ^ q.1)).reverse.length (hcs (can l q.1 (m / 2 ^ q.1)).reverse), .box g4 87 [.int .i64 (m : Int), .slice q.2.2.1.1 (can l q.1 (m / 2 ^ q.1)).reverse.length q.2.2.1.2], .box g2 87 [.int .i64 0, .slice none 0 0]]) (H := fun _ => F) (Ψ := fun q => q.1 ≤ 13 ∧ q.2.1 = l.drop (m / 2 ^ q.1 * 2 ^ q.1) ∧ q.2.1.length ≤ q.2.2.2.2 ∧ (can l q.1 (m / 2 ^ q.1)).reverse.length ≤ q.2.2.1.2 ∧ ∀ w, F w → Sl w q.2.2.2.1 (hcs q.2.1)) (μ := fun q => q.1) (13, l, (none, 0), (B, km)) ⟨by dsimp only; omega, by dsimp only; rw [show m / 2 ^ 13 = 0 by have : (2 : Nat) ^ 13 = 8192 := rfl; omega, Nat.zero_mul, List.drop_zero], by dsimp only; omega, by dsimp only; rw [htop]; exact Nat.le_refl _, hB⟩ (okE_cons (by dsimp only; rw [hm]; rfl) (okE_cons (slotI (by dsimp only; decide)) okE_nil)) (fun w h => by dsimp only; rw [htop]; exact h) (fun sK8 hK8 K8 againK8 => ?_)
    obtain ⟨e, lr, ⟨A1, k1⟩, B1, kb⟩ := sK8
    dsimp only at hK8 againK8 ⊢
    obtain ⟨he, hlr, hkb, hk1, hB1⟩ := hK8
    refine JC.seq fun K9 hK9 => ?_
    refine JC.seq fun K10 hK10 => ?_
    refine JC.region ?_
    refine J.yl (y_move rfl rfl) rfl rfl rfl ?_
    refine J.ylp (y_gt rfl rfl rfl) rfl rfl rfl (fun h2 => ?_) (fun h2 => ?_)
    · obtain ⟨e, rfl⟩ : ∃ q, e = q + 1 := by
        cases e with
        | zero => exact absurd h2 (by decide)
        | succ q => exact ⟨q, rfl⟩
      have hp : 0 < 2 ^ e := Nat.pow_pos (by decide)
      have hs2 : 2 ^ (e + 1) / 2 = 2 ^ e := by rw [Nat.pow_succ]; omega
      have hpe : 2 ^ e ≤ 4096 := Nat.le_trans (Nat.pow_le_pow_right (by decide) (show e ≤ 12 by omega)) (by decide)
      have hdv := Nat.div_add_mod m (2 ^ e)
      have hmd := Nat.mod_lt m hp
      have hhalf := div_half m e
      have hlen1 := hlen e
      obtain ⟨q, hq⟩ : ∃ q, m / 2 ^ e = q := ⟨_, rfl⟩
      rw [hq, Nat.mul_comm] at hdv
      have hcc : m / 2 ^ (e + 1) * 2 ^ (e + 1) = q / 2 * 2 * 2 ^ e := by rw [← hhalf, hq, Nat.pow_succ, Nat.mul_comm (2 ^ e) 2, ← Nat.mul_assoc]
      have hrl : lr.length = m - q / 2 * 2 * 2 ^ e := by rw [hlr, hcc, List.length_drop, hm]
      rw [hs2]
      refine J.nil ?_
      refine JQ.next hK10 ?_
      refine JC.yes rfl ?_
      refine JC.skip ?_
      refine JQ.next hK9 ?_
      refine JC.seq fun K11 hK11 => ?_
      refine JC.block ?_
      refine JC.seq fun K12 hK12 => ?_
      refine JC.region ?_
      refine J.yl (y_move rfl rfl) rfl rfl rfl ?_
      refine J.yl (y_len rfl Tryd.underlying22 rfl) rfl rfl rfl ?_
      refine J.yl (y_move rfl rfl) rfl rfl rfl ?_
      refine J.yl (y_ge rfl rfl rfl) rfl rfl rfl ?_
      refine J.nil ?_
      refine JQ.next hK12 ?_
      refine JC.condp rfl (fun h3 => ?_) (fun h3 => ?_)
      · have hodd : q % 2 = 1 := by
          rcases Nat.mod_two_eq_zero_or_one q with h | h
          · exfalso
            have e1 : q / 2 * 2 = q := by omega
            rw [e1] at hrl
            omega
          · exact h
        have e1 : q / 2 * 2 + 1 = q := by omega
        have e2' : q / 2 * 2 * 2 ^ e + 2 ^ e = q * 2 ^ e := by rw [← Nat.succ_mul]; congr 1
        have hseg : lr.take (2 ^ e) = seg l ((q - 1) * 2 ^ e) (q * 2 ^ e) := by
          rw [hlr, hcc, ← e2', show q - 1 = q / 2 * 2 by omega]
          unfold seg
          rw [List.drop_take]
          congr 1; omega
        have hcan : (can l e (m / 2 ^ e)).reverse = (can l (e + 1) (m / 2 ^ (e + 1))).reverse ++ [root (lr.take (2 ^ e))] := by
          rw [← hhalf, hq, can_odd l hodd, List.reverse_cons, hseg]
        have hnl : lr.drop (2 ^ e) = l.drop (m / 2 ^ e * 2 ^ e) := by rw [hlr, hcc, List.drop_drop, hq, e2']
        have hcl1 : (can l (e + 1) (m / 2 ^ (e + 1))).reverse.length ≤ 127 := by rw [List.length_reverse]; exact hlen (e + 1)
        refine JC.drawM [false, false, false] (by kernel_rfl) ?_
        refine D.take 0 (y_fb rfl Tb.fo87_1 rfl) rfl rfl rfl rfl (by kernel_rfl) (by kernel_rfl) (by kernel_rfl) (PQ.block (PQ.next (PQ.next (PQ.block (PQ.next PQ.body))))) ?_
        refine D.take 2 (y_move rfl rfl) rfl rfl rfl rfl (by kernel_rfl) (by kernel_rfl) (by kernel_rfl) (PQ.block (PQ.next (PQ.next (PQ.block (PQ.next PQ.body))))) ?_
        refine D.take 3 (y_move rfl rfl) rfl rfl rfl rfl (by kernel_rfl) (by kernel_rfl) (by kernel_rfl) (PQ.block (PQ.next (PQ.next (PQ.block (PQ.next PQ.body))))) ?_
        refine D.take 8 (y_move rfl rfl) rfl rfl rfl rfl (by kernel_rfl) (by kernel_rfl) (by kernel_rfl) (PQ.block (PQ.next (PQ.next (PQ.block (PQ.next PQ.body))))) ?_
        refine D.take 9 (y_move rfl rfl) rfl rfl rfl rfl (by kernel_rfl) (by kernel_rfl) (by kernel_rfl) (PQ.block (PQ.next (PQ.next (PQ.block (PQ.next PQ.body))))) ?_
        refine D.take 4 (y_cuttoN (2 ^ e) rfl Tryd.underlying22 Tb.sz30 rfl rfl rfl (by omega)) rfl rfl rfl rfl (by kernel_rfl) (by kernel_rfl) (by kernel_rfl) (PQ.block (PQ.next (PQ.next (PQ.block (PQ.next PQ.body))))) ?_
        refine D.take 10 (y_cutfromN (2 ^ e) rfl Tryd.underlying22 Tb.sz30 rfl rfl rfl (by omega)) rfl rfl rfl rfl (by kernel_rfl) (by kernel_rfl) (by kernel_rfl) (PQ.block (PQ.next (PQ.next (PQ.block (PQ.next PQ.body))))) ?_
        refine D.two 1 5 (by kernel_rfl) ?_ ?_
        · refine DS.ofJ rfl fun KhK13 hK13 => ?_
          refine J.yl (y_lb 1 rfl Tb.ag22 rfl rfl rfl) rfl rfl rfl ?_
          refine J.nil ?_
          refine hK13 _ _ _ (fun w hs => hs.mask [false, false, false]) ?_
          refine D.ofJ 5 (by kernel_rfl) rfl fun KhK15 hK15 => ?_
          refine J.callv rfl rfl rfl rfl Tb.cl86 rfl (rroot_spec (lr.take (2 ^ e)).length (lr.take (2 ^ e)) B1 (2 ^ e) kb (Nat.le_refl _) (by rw [List.length_take]; omega) (by omega) (by rw [List.length_take]; omega) _ (fun w h => (hB1 w h.1).htake (2 ^ e))) ?_
          refine J.nil ?_
          refine hK15 _ _ _ (fun w hs => hs.mask [false, false, false]) ?_
          refine D.ofJ 6 (by kernel_rfl) rfl fun KhK16 hK16 => ?_
          refine J.bs1 rfl rfl rfl rfl rfl Tryd.underlying22 Tb.zz30 Tb.sz30 rfl (by decide) rfl (hcl _) fun g27 => ?_
          refine J.nil ?_
          refine hK16 _ _ _ (fun w hs => hs.mask [false, false, false, false]) ?_
          refine D.ofJ 7 (by kernel_rfl) rfl fun KhK17 hK17 => ?_
          refine J.append 1 rfl rfl rfl rfl rfl rfl Tryd.underlying22 Tb.zz30 Tb.sz30 Tb.by30 rfl (by decide) rfl (by rw [hcl]) (fun w hs => .inr ⟨rfl, At.box (hs.get (i := 0) rfl)⟩) (hc1 _) (by omega) (by decide) (show _ = (can l e (m / 2 ^ e)).reverse.length by rw [hcan]; simp) (show _ = hcs (can l e (m / 2 ^ e)).reverse by rw [hcan, hcs_append, hcs_one]) fun A k hAx hkx => ?_
          refine J.drop ?_
          refine J.nil ?_
          refine hK17 _ _ _ (fun w hs => hs.mask [false, false, false]) ?_
          refine D.take 11 (y_fb rfl Tb.fo87_1 rfl) rfl rfl rfl rfl (by kernel_rfl) (by kernel_rfl) (by kernel_rfl) (PQ.block (PQ.next (PQ.next (PQ.block (PQ.next PQ.body))))) ?_
          refine D.ofJ 12 (by kernel_rfl) rfl fun KhK19 hK19 => ?_
          refine J.store1 1 rfl rfl rfl rfl rfl rfl rfl Tb.sz22 (by first | (simp; done) | exact Nat.le_of_ble_eq_true rfl) rfl ?_
          refine J.nil ?_
          refine hK19 _ _ _ (fun w hs => hs.mask [false, false, false]) ?_
          refine D.take 13 (y_assign rfl rfl) rfl rfl rfl rfl (by kernel_rfl) (by kernel_rfl) (by kernel_rfl) (PQ.block (PQ.next (PQ.next (PQ.block (PQ.next PQ.body))))) ?_
          refine D.done (by kernel_rfl) ?_
          refine JQ.block_normal (JQ.next hK11 ?_)
          refine JC.region ?_
          refine J.yl (y_move rfl rfl) rfl rfl rfl ?_
          refine J.yl (y_quoN (2 ^ e) 2 rfl rfl rfl rfl rfl (by decide) (by omega)) rfl rfl rfl ?_
          refine J.yl (y_assign rfl rfl) rfl rfl rfl ?_
          refine J.nil ?_
          refine againK8 (e, lr.drop (2 ^ e), (A, k), (cutA B1 kb (2 ^ e) 32, kb - 2 ^ e)) _ ⟨by dsimp only; omega, hnl, by dsimp only; rw [List.length_drop]; omega, hkx, fun w h => (hB1 w h).hdrop _ _ hkb (by omega)⟩ (by dsimp only; omega) (okE_cons ((by dsimp only; rw [List.length_drop]; rfl)) (okE_cons rfl okE_nil)) (okE_cons rfl (okE_cons rfl (okE_cons rfl okE_nil)))
        · refine DS.ofJ rfl fun KhK21 hK21 => ?_
          refine J.callv rfl rfl rfl rfl Tb.cl86 rfl (rroot_spec (lr.take (2 ^ e)).length (lr.take (2 ^ e)) B1 (2 ^ e) kb (Nat.le_refl _) (by rw [List.length_take]; omega) (by omega) (by rw [List.length_take]; omega) _ (fun w h => (hB1 w h.1).htake (2 ^ e))) ?_
          refine J.nil ?_
          refine hK21 _ _ _ (fun w hs => hs.mask [false, false, false]) ?_
          refine D.two 1 6 (by kernel_rfl) ?_ ?_
          · refine DS.ofJ rfl fun KhK22 hK22 => ?_
            refine J.yl (y_lb 1 rfl Tb.ag22 rfl rfl rfl) rfl rfl rfl ?_
            refine J.nil ?_
            refine hK22 _ _ _ (fun w hs => hs.mask [false, false, false]) ?_
            refine D.ofJ 6 (by kernel_rfl) rfl fun KhK23 hK23 => ?_
            refine J.bs1 rfl rfl rfl rfl rfl Tryd.underlying22 Tb.zz30 Tb.sz30 rfl (by decide) rfl (hcl _) fun g27 => ?_
            refine J.nil ?_
            refine hK23 _ _ _ (fun w hs => hs.mask [false, false, false, false]) ?_
            refine D.ofJ 7 (by kernel_rfl) rfl fun KhK24 hK24 => ?_
            refine J.append 1 rfl rfl rfl rfl rfl rfl Tryd.underlying22 Tb.zz30 Tb.sz30 Tb.by30 rfl (by decide) rfl (by rw [hcl]) (fun w hs => .inr ⟨rfl, At.box (hs.get (i := 0) rfl)⟩) (hc1 _) (by omega) (by decide) (show _ = (can l e (m / 2 ^ e)).reverse.length by rw [hcan]; simp) (show _ = hcs (can l e (m / 2 ^ e)).reverse by rw [hcan, hcs_append, hcs_one]) fun A k hAx hkx => ?_
            refine J.drop ?_
            refine J.nil ?_
            refine hK24 _ _ _ (fun w hs => hs.mask [false, false, false]) ?_
            refine D.take 11 (y_fb rfl Tb.fo87_1 rfl) rfl rfl rfl rfl (by kernel_rfl) (by kernel_rfl) (by kernel_rfl) (PQ.block (PQ.next (PQ.next (PQ.block (PQ.next PQ.body))))) ?_
            refine D.ofJ 12 (by kernel_rfl) rfl fun KhK26 hK26 => ?_
            refine J.store1 1 rfl rfl rfl rfl rfl rfl rfl Tb.sz22 (by first | (simp; done) | exact Nat.le_of_ble_eq_true rfl) rfl ?_
            refine J.nil ?_
            refine hK26 _ _ _ (fun w hs => hs.mask [false, false, false]) ?_
            refine D.take 13 (y_assign rfl rfl) rfl rfl rfl rfl (by kernel_rfl) (by kernel_rfl) (by kernel_rfl) (PQ.block (PQ.next (PQ.next (PQ.block (PQ.next PQ.body))))) ?_
            refine D.done (by kernel_rfl) ?_
            refine JQ.block_normal (JQ.next hK11 ?_)
            refine JC.region ?_
            refine J.yl (y_move rfl rfl) rfl rfl rfl ?_
            refine J.yl (y_quoN (2 ^ e) 2 rfl rfl rfl rfl rfl (by decide) (by omega)) rfl rfl rfl ?_
            refine J.yl (y_assign rfl rfl) rfl rfl rfl ?_
            refine J.nil ?_
            refine againK8 (e, lr.drop (2 ^ e), (A, k), (cutA B1 kb (2 ^ e) 32, kb - 2 ^ e)) _ ⟨by dsimp only; omega, hnl, by dsimp only; rw [List.length_drop]; omega, hkx, fun w h => (hB1 w h).hdrop _ _ hkb (by omega)⟩ (by dsimp only; omega) (okE_cons ((by dsimp only; rw [List.length_drop]; rfl)) (okE_cons rfl okE_nil)) (okE_cons rfl (okE_cons rfl (okE_cons rfl okE_nil)))
          · refine DS.ofJ rfl fun KhK27 hK27 => ?_
            refine J.bs1 rfl rfl rfl rfl rfl Tryd.underlying22 Tb.zz30 Tb.sz30 rfl (by decide) rfl (hcl _) fun g27 => ?_
            refine J.nil ?_
            refine hK27 _ _ _ (fun w hs => hs.mask [false, false, false, false]) ?_
            refine D.ofJ 1 (by kernel_rfl) rfl fun KhK28 hK28 => ?_
            refine J.yl (y_lb 2 rfl Tb.ag22 rfl rfl rfl) rfl rfl rfl ?_
            refine J.nil ?_
            refine hK28 _ _ _ (fun w hs => hs.mask [false, false, false, false]) ?_
            refine D.ofJ 7 (by kernel_rfl) rfl fun KhK29 hK29 => ?_
            refine J.append 1 rfl rfl rfl rfl rfl rfl Tryd.underlying22 Tb.zz30 Tb.sz30 Tb.by30 rfl (by decide) rfl (by rw [hcl]) (fun w hs => .inr ⟨rfl, At.box (hs.get (i := 0) rfl)⟩) (hc1 _) (by omega) (by decide) (show _ = (can l e (m / 2 ^ e)).reverse.length by rw [hcan]; simp) (show _ = hcs (can l e (m / 2 ^ e)).reverse by rw [hcan, hcs_append, hcs_one]) fun A k hAx hkx => ?_
            refine J.drop ?_
            refine J.nil ?_
            refine hK29 _ _ _ (fun w hs => hs.mask [false, false, false]) ?_
            refine D.take 11 (y_fb rfl Tb.fo87_1 rfl) rfl rfl rfl rfl (by kernel_rfl) (by kernel_rfl) (by kernel_rfl) (PQ.block (PQ.next (PQ.next (PQ.block (PQ.next PQ.body))))) ?_
            refine D.ofJ 12 (by kernel_rfl) rfl fun KhK31 hK31 => ?_
            refine J.store1 1 rfl rfl rfl rfl rfl rfl rfl Tb.sz22 (by first | (simp; done) | exact Nat.le_of_ble_eq_true rfl) rfl ?_
            refine J.nil ?_
            refine hK31 _ _ _ (fun w hs => hs.mask [false, false, false]) ?_
            refine D.take 13 (y_assign rfl rfl) rfl rfl rfl rfl (by kernel_rfl) (by kernel_rfl) (by kernel_rfl) (PQ.block (PQ.next (PQ.next (PQ.block (PQ.next PQ.body))))) ?_
            refine D.done (by kernel_rfl) ?_
            refine JQ.block_normal (JQ.next hK11 ?_)
            refine JC.region ?_
            refine J.yl (y_move rfl rfl) rfl rfl rfl ?_
            refine J.yl (y_quoN (2 ^ e) 2 rfl rfl rfl rfl rfl (by decide) (by omega)) rfl rfl rfl ?_
            refine J.yl (y_assign rfl rfl) rfl rfl rfl ?_
            refine J.nil ?_
            refine againK8 (e, lr.drop (2 ^ e), (A, k), (cutA B1 kb (2 ^ e) 32, kb - 2 ^ e)) _ ⟨by dsimp only; omega, hnl, by dsimp only; rw [List.length_drop]; omega, hkx, fun w h => (hB1 w h).hdrop _ _ hkb (by omega)⟩ (by dsimp only; omega) (okE_cons ((by dsimp only; rw [List.length_drop]; rfl)) (okE_cons rfl okE_nil)) (okE_cons rfl (okE_cons rfl (okE_cons rfl okE_nil)))
      · have heven : ¬ q % 2 = 1 := fun h => by
          have e1 : q / 2 * 2 + 1 = q := by omega
          have e2' : q / 2 * 2 * 2 ^ e + 2 ^ e = q * 2 ^ e := by rw [← Nat.succ_mul]; congr 1
          omega
        have hcan : can l e (m / 2 ^ e) = can l (e + 1) (m / 2 ^ (e + 1)) := by rw [← hhalf, hq, can_even l heven]
        have hnl : lr = l.drop (m / 2 ^ e * 2 ^ e) := by rw [hlr, hcc, hq, show q / 2 * 2 = q by omega]
        rw [← hcan] at hk1 ⊢
        refine JC.skip ?_
        refine JQ.block_normal (JQ.next hK11 ?_)
        refine JC.region ?_
        refine J.yl (y_move rfl rfl) rfl rfl rfl ?_
        refine J.yl (y_quoN (2 ^ e) 2 rfl rfl rfl rfl rfl (by decide) (by omega)) rfl rfl rfl ?_
        refine J.yl (y_assign rfl rfl) rfl rfl rfl ?_
        refine J.nil ?_
        refine againK8 (e, lr, (A1, k1), (B1, kb)) _ ⟨by dsimp only; omega, hnl, hkb, hk1, hB1⟩ (by dsimp only; omega) (okE_cons rfl (okE_cons rfl okE_nil)) (okE_cons rfl (okE_cons rfl (okE_cons rfl okE_nil)))
    · have he0 : e = 0 := by
        cases e with
        | zero => rfl
        | succ q =>
          exfalso
          have hp : 0 < 2 ^ q := Nat.pow_pos (by decide)
          have hs2 : 2 ^ (q + 1) / 2 = 2 ^ q := by rw [Nat.pow_succ]; omega
          rw [hs2] at h2
          omega
      subst he0
      have hfin : can l 0 (m / 2 ^ 0) = can l 0 m := by rw [Nat.pow_zero, Nat.div_one]
      rw [hfin] at hk1 ⊢
      refine J.nil ?_
      refine JQ.next hK10 ?_
      refine JC.no rfl ?_
      refine JC.exit ?_
      refine JQ.then_exit (JQ.then_exit (JQ.block_hit (JQ.next hK6 ?_)))
      refine JC.seq fun K32 hK32 => ?_
      refine JC.region ?_
      refine J.yl (y_lbW 1 rfl Tb.ag87 Tb.sz87 (by first | (simp [length_wl]; done) | rfl) rfl rfl) rfl rfl rfl ?_
      refine J.storeW 2 rfl rfl rfl rfl rfl rfl rfl Tb.sz87 (by first | (simp [length_wl]; done) | rfl) (by first | (simp [length_wl]; done) | rfl) (by first | exact u32s1 _ | exact one_vc _ | (simp; done) | (intro u hu; simp only [List.mem_cons, List.not_mem_nil, or_false] at hu; rcases hu with rfl | rfl <;> rfl)) ?_
      refine J.yl (y_assign rfl rfl) rfl rfl rfl ?_
      refine J.nil ?_
      refine JQ.next hK32 ?_
      refine JC.ret ?_
      exact ret2 rfl (r_cellA 2 rfl rfl Tb.ag87 Tb.sz87) (r_tmp rfl) fun w hs => by rw [e1, e2, e3]; exact Post.of_st hs (A1, k1) hk1 (.cons_cons _ (List.nil_sublist _)) fun _ _ => trivial
end Go.Proofs.YtjkfeonbioccmaaDoor
namespace Go.Proofs.YtjkfeonbioccmaaDoor
open Go Go.Sx Go.RowKit
set_option linter.unusedVariables false
set_option linter.unusedSimpArgs false
set_option maxRecDepth 100000
set_option maxHeartbeats 4000000
variable {Gl F : World → Prop}
theorem parts_fnE (a n : Nat) (x y : Int) (P : List Nat) (hP : pts a n = P) (hx : x = a) (hy : y = a + n) (hN : n ≤ 100000) (ha : a ≤ 100000) :
    FnSpec Tryd.prog Gl 130 [.int .i64 x, .int .i64 y] [] F (ι := Option Addr × Nat) (fun q => P.length ≤ q.2) (fun q => .slice q.1 P.length q.2) (OwnN P) (fun _ _ => True) := by
  subst hP; exact parts_fn a n x y hx hy hN ha
theorem pts_drop {a n i k : Nat} {P : List Nat} (h : P.drop i = pts a n) (hk : P[i]? = some k) : 0 < n ∧ k = stp a n ∧ P.drop (i + 1) = pts (a + stp a n) (n - stp a n) := by
  have hlt := (List.getElem?_eq_some_iff.1 hk).1
  have hd : P.drop i = k :: P.drop (i + 1) := by rw [List.drop_eq_getElem_cons hlt, (List.getElem?_eq_some_iff.1 hk).2]
  rw [hd] at h
  by_cases hn : n = 0
  · subst hn; rw [pts_zero] at h; cases h
  · rw [pts_step hn] at h
    injection h with h1 h2
    exact ⟨by omega, h1, h2⟩
theorem rpart_fn (a : Int) (l : List H) (B : Option Addr) (m km : Nat) (hm : l.length = m) (hkm : m ≤ km) (hM : m ≤ 1000000) (hB : ∀ w, F w → Sl w B (hcs l)) :
    FnSpec Tryd.prog Gl 59 [.int .i64 a, .slice B m km] [] F (ι := Option Addr × Nat) (fun q => (pL a l).length ≤ q.2) (fun q => .tuple #[.slice q.1 (pL a l).length q.2, .int .i64 (pE a l)]) (OwnL (pL a l)) (fun _ _ => True) := by
  have hbad : pBad a l → pL a l = [] ∧ pE a l = 2 := fun h => ⟨if_pos h, if_pos h⟩
  refine FnSpec.intro Tryd.func59 rfl Tryd.ntmps59 rfl fun X M w => ?_
  refine JC.seq fun K1 hK1 => ?_
  refine JC.region ?_
  refine J.yl (y_assign rfl rfl) rfl rfl rfl ?_
  refine J.yl (y_assign rfl rfl) rfl rfl rfl ?_
  refine J.nil ?_
  refine JQ.next hK1 ?_
  refine JC.seq fun K2 hK2 => ?_
  refine JC.seq fun K3 hK3 => ?_
  refine JC.region ?_
  refine J.yl (y_move rfl rfl) rfl rfl rfl ?_
  refine J.ylp (y_lt rfl rfl rfl) rfl rfl rfl (fun h1 => ?_) (fun h1 => ?_)
  · obtain ⟨hb1, hb2⟩ := hbad (.inl h1)
    refine J.yl (y_move rfl rfl) rfl rfl rfl ?_
    refine J.gno (b := true) rfl rfl rfl rfl rfl rfl ?_
    refine J.gno (b := true) rfl rfl rfl rfl rfl rfl ?_
    refine J.yl (y_pick rfl rfl (fun _ => rfl) (fun h => by cases h)) rfl rfl rfl ?_
    refine J.yl (y_move rfl rfl) rfl rfl rfl ?_
    refine J.gno (b := true) rfl rfl rfl rfl rfl rfl ?_
    refine J.gno (b := true) rfl rfl rfl rfl rfl rfl ?_
    refine J.gno (b := true) rfl rfl rfl rfl rfl rfl ?_
    refine J.gno (b := true) rfl rfl rfl rfl rfl rfl ?_
    refine J.gno (b := true) rfl rfl rfl rfl rfl rfl ?_
    refine J.yl (y_pick rfl rfl (fun _ => rfl) (fun h => by cases h)) rfl rfl rfl ?_
    refine J.nil ?_
    refine JQ.next hK3 ?_
    refine JC.yes rfl ?_
    refine JC.seq fun K4 hK4 => ?_
    refine JC.region ?_
    refine J.yl (y_assign rfl rfl) rfl rfl rfl ?_
    refine J.yl (y_assign rfl rfl) rfl rfl rfl ?_
    refine J.nil ?_
    refine JQ.next hK4 ?_
    refine JC.ret ?_
    refine JQ.then_ret ?_
    refine JQ.st ?_ (fun w hs => hs.nilrow 30 32)
    exact ret2 rfl (r_tmp rfl) (r_tmp rfl) fun w hs => by rw [hb1, hb2]; exact Post.of_st hs (none, 0) (Nat.le_refl _) (List.Sublist.refl _) fun _ _ => trivial
  · refine J.yl (y_move rfl rfl) rfl rfl rfl ?_
    refine J.gyes (y_move rfl rfl) rfl rfl rfl rfl rfl rfl ?_
    refine J.ypG (y_gt rfl rfl rfl) rfl rfl rfl rfl rfl rfl (fun h2 => ?_) (fun h2 => ?_)
    · obtain ⟨hb1, hb2⟩ := hbad (.inr (.inl h2))
      refine J.yl (y_pick rfl rfl (fun h => by cases h) (fun _ => rfl)) rfl rfl rfl ?_
      refine J.yl (y_move rfl rfl) rfl rfl rfl ?_
      refine J.gno (b := true) rfl rfl rfl rfl rfl rfl ?_
      refine J.gno (b := true) rfl rfl rfl rfl rfl rfl ?_
      refine J.gno (b := true) rfl rfl rfl rfl rfl rfl ?_
      refine J.gno (b := true) rfl rfl rfl rfl rfl rfl ?_
      refine J.gno (b := true) rfl rfl rfl rfl rfl rfl ?_
      refine J.yl (y_pick rfl rfl (fun _ => rfl) (fun h => by cases h)) rfl rfl rfl ?_
      refine J.nil ?_
      refine JQ.next hK3 ?_
      refine JC.yes rfl ?_
      refine JC.seq fun K5 hK5 => ?_
      refine JC.region ?_
      refine J.yl (y_assign rfl rfl) rfl rfl rfl ?_
      refine J.yl (y_assign rfl rfl) rfl rfl rfl ?_
      refine J.nil ?_
      refine JQ.next hK5 ?_
      refine JC.ret ?_
      refine JQ.then_ret ?_
      refine JQ.st ?_ (fun w hs => hs.nilrow 30 32)
      exact ret2 rfl (r_tmp rfl) (r_tmp rfl) fun w hs => by rw [hb1, hb2]; exact Post.of_st hs (none, 0) (Nat.le_refl _) (List.Sublist.refl _) fun _ _ => trivial
    · refine J.yl (y_pick rfl rfl (fun h => by cases h) (fun _ => rfl)) rfl rfl rfl ?_
      refine J.yl (y_move rfl rfl) rfl rfl rfl ?_
      refine J.gyes (y_move rfl rfl) rfl rfl rfl rfl rfl rfl ?_
      refine J.gyes (y_move rfl rfl) rfl rfl rfl rfl rfl rfl ?_
      refine J.gyes (y_len rfl Tryd.underlying22 rfl) rfl rfl rfl rfl rfl rfl ?_
      refine J.gyes (y_add64 rfl rfl rfl (by omega)) rfl rfl rfl rfl rfl rfl ?_
      refine J.gyes (y_gt rfl rfl rfl) rfl rfl rfl rfl rfl rfl ?_
      refine J.yl (y_pick rfl rfl (fun h => by cases h) (fun _ => rfl)) rfl rfl rfl ?_
      refine J.nil ?_
      refine JQ.next hK3 ?_
      refine JC.condp rfl (fun h3 => ?_) (fun h3 => ?_)
      · obtain ⟨hb1, hb2⟩ := hbad (.inr (.inr (by omega)))
        refine JC.seq fun K6 hK6 => ?_
        refine JC.region ?_
        refine J.yl (y_assign rfl rfl) rfl rfl rfl ?_
        refine J.yl (y_assign rfl rfl) rfl rfl rfl ?_
        refine J.nil ?_
        refine JQ.next hK6 ?_
        refine JC.ret ?_
        refine JQ.then_ret ?_
        refine JQ.st ?_ (fun w hs => hs.nilrow 30 32)
        exact ret2 rfl (r_tmp rfl) (r_tmp rfl) fun w hs => by rw [hb1, hb2]; exact Post.of_st hs (none, 0) (Nat.le_refl _) (List.Sublist.refl _) fun _ _ => trivial
      · obtain ⟨a, rfl⟩ : ∃ q : Nat, a = q := ⟨a.toNat, by omega⟩
        have hok : ¬ pBad (a : Int) l := fun h => by unfold pBad at h; omega
        obtain ⟨P, hP⟩ : ∃ P, pts a m = P := ⟨_, rfl⟩
        have e1 : pL a l = cutR P l := by rw [pL, if_neg hok, Int.toNat_natCast, hm, hP]
        have e2 : pE a l = 0 := if_neg hok
        have hPl : P.length ≤ m := by rw [← hP]; exact pts_len m a m (Nat.le_refl _)
        refine JC.skip ?_
        refine JQ.next hK2 ?_
        refine JC.seq fun K7 hK7 => ?_
        refine JC.region ?_
        refine J.yl (y_move rfl rfl) rfl rfl rfl ?_
        refine J.yl (y_move rfl rfl) rfl rfl rfl ?_
        refine J.yl (y_move rfl rfl) rfl rfl rfl ?_
        refine J.yl (y_len rfl Tryd.underlying22 rfl) rfl rfl rfl ?_
        refine J.yl (y_add64 rfl rfl rfl (by omega)) rfl rfl rfl ?_
        refine J.callR (Cin := []) rfl rfl rfl rfl Tb.cl130 rfl rfl (parts_fnE a m a _ P hP rfl rfl (by omega) (by omega)) ?_
        rintro ⟨A6, k6⟩ hk6
        refine J.yl (y_assign rfl rfl) rfl rfl rfl ?_
        refine J.nil ?_
        refine JQ.next hK7 ?_
        refine JC.seq fun K8 hK8 => ?_
        refine JC.region ?_
        refine J.yl (y_assign rfl rfl) rfl rfl rfl ?_
        refine J.nil ?_
        refine JQ.next hK8 ?_
        refine JC.seq fun K9 hK9 => ?_
        refine JC.seq fun K10 hK10 => ?_
        refine JC.region ?_
        refine J.yl (y_assign rfl rfl) rfl rfl rfl ?_
        refine J.nil ?_
        refine JQ.next hK10 ?_
        refine JC.block ?_
        refine JC.st ?_ (fun w hs => hs.nilrow 30 32)
        refine JC.loopE (σ := Nat × Nat × List H × List H × (Option Addr × Nat) × (Option Addr × Nat)) (M := fun q => [(1, .slice q.2.2.2.2.2.1 q.2.2.2.1.length q.2.2.2.2.2.2), (7, .slice q.2.2.2.2.1.1 q.2.2.1.length q.2.2.2.2.1.2), (8, .int .i64 (q.1 : Int))]) (kp := [(6, _)]) (hkp := (okE_cons rfl okE_nil)) (Dc := fun q => OwnL q.2.2.1 q.2.2.2.2.1 ++ OwnN P (A6, k6)) (H := fun _ => F) (Ψ := fun q => q.1 ≤ P.length ∧ P.drop q.1 = pts q.2.1 q.2.2.2.1.length ∧ q.2.2.2.1.length ≤ q.2.2.2.2.2.2 ∧ q.2.2.1.length ≤ q.2.2.2.2.1.2 ∧ q.2.2.1.length = q.1 ∧ q.2.2.2.1.length ≤ m ∧ cutR P l = q.2.2.1 ++ cutR (P.drop q.1) q.2.2.2.1 ∧ ∀ w, F w → Sl w q.2.2.2.2.2.1 (hcs q.2.2.2.1)) (μ := fun q => P.length - q.1) (0, a, [], l, (none, 0), (B, km)) ⟨Nat.zero_le _, by dsimp only; rw [List.drop_zero, ← hP, hm], by dsimp only; omega, Nat.le_refl _, rfl, by dsimp only; omega, rfl, hB⟩ (okE_cons (by dsimp only; rw [hm]; rfl) (okE_cons rfl (okE_cons rfl okE_nil))) (fun w h => h) (fun sK11 hK11 K11 againK11 => ?_)
        obtain ⟨i, z, o, lr, ⟨A1, k1⟩, B1, kb⟩ := sK11
        dsimp only at hK11 againK11 ⊢
        obtain ⟨hi, hd, hkb, hk1, ho, hlm, hcut, hB1⟩ := hK11
        refine JC.seq fun K12 hK12 => ?_
        refine JC.seq fun K13 hK13 => ?_
        refine JC.region ?_
        refine J.yl (y_move rfl rfl) rfl rfl rfl ?_
        refine J.yl (y_move rfl rfl) rfl rfl rfl ?_
        refine J.yl (y_len rfl Tryd.underlying174 rfl) rfl rfl rfl ?_
        refine J.yl (y_lt rfl rfl rfl) rfl rfl rfl ?_
        refine J.nil ?_
        refine JQ.next hK13 ?_
        refine JC.condp rfl (fun h4 => ?_) (fun h4 => ?_)
        · obtain ⟨n, hn⟩ : ∃ n, P[i]? = some n := ⟨_, List.getElem?_eq_getElem (show i < P.length by omega)⟩
          obtain ⟨hp0, hp1, hp2⟩ := pts_drop hd hn
          have hsp := stp_pos z lr.length (by omega)
          rw [← hp1] at hsp hp2
          have hPd : P.drop i = n :: P.drop (i + 1) := by rw [List.drop_eq_getElem_cons (by omega), (List.getElem?_eq_some_iff.1 hn).2]
          have hcut2 : cutR P l = (o ++ [root (lr.take n)]) ++ cutR (P.drop (i + 1)) (lr.drop n) := by rw [hcut, hPd, List.append_assoc]; rfl
          refine JC.skip ?_
          refine JQ.next hK12 ?_
          refine JC.seq fun K14 hK14 => ?_
          refine JC.block ?_
          refine JC.drawM [false, true] (by kernel_rfl) ?_
          refine D.take 0 (y_move rfl rfl) rfl rfl rfl rfl (by kernel_rfl) (by kernel_rfl) (by kernel_rfl) (PQ.block (PQ.next (PQ.next (PQ.block (PQ.next PQ.body))))) ?_
          refine D.take 1 (y_move rfl rfl) rfl rfl rfl rfl (by kernel_rfl) (by kernel_rfl) (by kernel_rfl) (PQ.block (PQ.next (PQ.next (PQ.block (PQ.next PQ.body))))) ?_
          refine D.take 2 (y_move rfl rfl) rfl rfl rfl rfl (by kernel_rfl) (by kernel_rfl) (by kernel_rfl) (PQ.block (PQ.next (PQ.next (PQ.block (PQ.next PQ.body))))) ?_
          refine D.take 3 (y_move rfl rfl) rfl rfl rfl rfl (by kernel_rfl) (by kernel_rfl) (by kernel_rfl) (PQ.block (PQ.next (PQ.next (PQ.block (PQ.next PQ.body))))) ?_
          refine D.take 10 (y_move rfl rfl) rfl rfl rfl rfl (by kernel_rfl) (by kernel_rfl) (by kernel_rfl) (PQ.block (PQ.next (PQ.next (PQ.block (PQ.next PQ.body))))) ?_
          refine D.take 11 (y_move rfl rfl) rfl rfl rfl rfl (by kernel_rfl) (by kernel_rfl) (by kernel_rfl) (PQ.block (PQ.next (PQ.next (PQ.block (PQ.next PQ.body))))) ?_
          refine D.take 12 (y_move rfl rfl) rfl rfl rfl rfl (by kernel_rfl) (by kernel_rfl) (by kernel_rfl) (PQ.block (PQ.next (PQ.next (PQ.block (PQ.next PQ.body))))) ?_
          refine D.take 4 (y_idxN i rfl Tryd.underlying174 Tb.sz3 rfl rfl rfl (by omega) (fun w hs => (strow hs 0 rfl).some_ (by intro e; have := congrArg List.length e; rw [ints_len, List.length_nil] at this; omega))) rfl rfl rfl rfl (by kernel_rfl) (by kernel_rfl) (by kernel_rfl) (PQ.block (PQ.next (PQ.next (PQ.block (PQ.next PQ.body))))) ?_
          refine D.take 5 (y_lsl rfl Tb.ag3 rfl (fun w hs => strow hs 0 rfl) (get_mul_one (ints_get P i n hn))) rfl rfl rfl rfl (by kernel_rfl) (by kernel_rfl) (by kernel_rfl) (PQ.block (PQ.next (PQ.next (PQ.block (PQ.next PQ.body))))) ?_
          refine D.take 6 (y_cuttoN n rfl Tryd.underlying22 Tb.sz30 rfl rfl rfl (by omega)) rfl rfl rfl rfl (by kernel_rfl) (by kernel_rfl) (by kernel_rfl) (PQ.block (PQ.next (PQ.next (PQ.block (PQ.next PQ.body))))) ?_
          refine D.take 13 (y_idxN i rfl Tryd.underlying174 Tb.sz3 rfl rfl rfl (by omega) (fun w hs => (strow hs 0 rfl).some_ (by intro e; have := congrArg List.length e; rw [ints_len, List.length_nil] at this; omega))) rfl rfl rfl rfl (by kernel_rfl) (by kernel_rfl) (by kernel_rfl) (PQ.block (PQ.next (PQ.next (PQ.block (PQ.next PQ.body))))) ?_
          refine D.take 14 (y_lsl rfl Tb.ag3 rfl (fun w hs => strow hs 0 rfl) (get_mul_one (ints_get P i n hn))) rfl rfl rfl rfl (by kernel_rfl) (by kernel_rfl) (by kernel_rfl) (PQ.block (PQ.next (PQ.next (PQ.block (PQ.next PQ.body))))) ?_
          refine D.take 15 (y_cutfromN n rfl Tryd.underlying22 Tb.sz30 rfl rfl rfl (by omega)) rfl rfl rfl rfl (by kernel_rfl) (by kernel_rfl) (by kernel_rfl) (PQ.block (PQ.next (PQ.next (PQ.block (PQ.next PQ.body))))) ?_
          refine D.ofJ 7 (by kernel_rfl) rfl fun KhK16 hK16 => ?_
          refine J.callv rfl rfl rfl rfl Tb.cl86 rfl (rroot_spec (lr.take n).length (lr.take n) B1 n kb (Nat.le_refl _) (by rw [List.length_take]; omega) (by omega) (by rw [List.length_take]; omega) _ (fun w h => (hB1 w h.1).htake n)) ?_
          refine J.nil ?_
          refine hK16 _ _ _ (fun w hs => hs.mask [false, true]) ?_
          refine D.ofJ 8 (by kernel_rfl) rfl fun KhK17 hK17 => ?_
          refine J.bs1 rfl rfl rfl rfl rfl Tryd.underlying22 Tb.zz30 Tb.sz30 rfl (by decide) rfl (hcl _) fun g42 => ?_
          refine J.nil ?_
          refine hK17 _ _ _ (fun w hs => hs.mask [false, false, true]) ?_
          refine D.ofJ 9 (by kernel_rfl) rfl fun KhK18 hK18 => ?_
          refine J.append 1 rfl rfl rfl rfl rfl rfl Tryd.underlying22 Tb.zz30 Tb.sz30 Tb.by30 rfl (by decide) rfl (by rw [hcl]) (fun w hs => .inr ⟨rfl, At.box (hs.get (i := 0) rfl)⟩) (hc1 _) (by omega) (by decide) (show _ = (o ++ [root (lr.take n)]).length by simp) (show _ = hcs (o ++ [root (lr.take n)]) by rw [hcs_append, hcs_one]) fun A k hAx hkx => ?_
          refine J.drop ?_
          refine J.nil ?_
          refine hK18 _ _ _ (fun w hs => hs.mask [false, true]) ?_
          refine D.take 16 (y_assign rfl rfl) rfl rfl rfl rfl (by kernel_rfl) (by kernel_rfl) (by kernel_rfl) (PQ.block (PQ.next (PQ.next (PQ.block (PQ.next PQ.body))))) ?_
          refine D.take 17 (y_assign rfl rfl) rfl rfl rfl rfl (by kernel_rfl) (by kernel_rfl) (by kernel_rfl) (PQ.block (PQ.next (PQ.next (PQ.block (PQ.next PQ.body))))) ?_
          refine D.done (by kernel_rfl) ?_
          refine JQ.block_normal (JQ.next hK14 ?_)
          refine JC.region ?_
          refine J.yl (y_move rfl rfl) rfl rfl rfl ?_
          refine J.yl (y_add64 rfl rfl rfl (by omega)) rfl rfl rfl ?_
          refine J.yl (y_assign rfl rfl) rfl rfl rfl ?_
          refine J.nil ?_
          refine againK11 (i + 1, z + n, o ++ [root (lr.take n)], lr.drop n, (A, k), (cutA B1 kb n 32, kb - n)) _ ⟨by dsimp only; omega, by dsimp only; rw [hp2, List.length_drop], by dsimp only; rw [List.length_drop]; omega, hkx, by dsimp only; rw [List.length_append, ho]; rfl, by dsimp only; rw [List.length_drop]; omega, hcut2, fun w h => (hB1 w h).hdrop _ _ hkb (by omega)⟩ (by dsimp only; omega) (okE_cons ((by dsimp only; rw [List.length_drop]; rfl)) (okE_cons rfl (okE_cons (slotI (by dsimp only; omega)) okE_nil))) (okE_cons rfl okE_nil)
        · have hfin : cutR P l = o := by
            rw [hcut, List.drop_of_length_le (by omega)]
            exact List.append_nil _
          refine JC.exit ?_
          refine JQ.then_exit (JQ.then_exit (JQ.block_hit (JQ.next hK9 ?_)))
          refine JC.seq fun K20 hK20 => ?_
          refine JC.region ?_
          refine J.yl (y_move rfl rfl) rfl rfl rfl ?_
          refine J.yl (y_assign rfl rfl) rfl rfl rfl ?_
          refine J.yl (y_assign rfl rfl) rfl rfl rfl ?_
          refine J.nil ?_
          refine JQ.next hK20 ?_
          refine JC.ret ?_
          exact ret2 rfl (r_tmp rfl) (r_tmp rfl) fun w hs => by rw [e1, e2, hfin]; exact Post.of_st hs (A1, k1) hk1 (.cons_cons _ (List.nil_sublist _)) fun _ _ => trivial
theorem trs_scale (z js : Nat) (r : List H) (h : z % 2 ^ js = 0) : trs z r = (pw (2 ^ js) (z / 2 ^ js)).zip r := by
  have := pw_scale js 1 (z / 2 ^ js)
  rw [Nat.div_mul_cancel (Nat.dvd_of_mod_eq_zero h), Nat.one_mul] at this
  rw [trs, this]
theorem rmerge_fn (s : Int) (rs : List H) (sz : Int) (p : List H) (A B : Option Addr) (n0 k m km : Nat) (hn : rs.length = n0) (hm : p.length = m) (hN : n0 ≤ 1000000) (hA : ∀ w, F w → Sl w A (hcs rs.reverse)) (hB : ∀ w, F w → Sl w B (hcs p)) :
    FnSpec Tryd.prog Gl 72 [.agg #[.int .i64 s, .slice A n0 k], .int .i64 sz, .slice B m km] [] F (ι := Option Addr × Nat) (fun q => (mL s rs sz p).length ≤ q.2) (fun q => .tuple #[.agg #[.int .i64 (mS s rs sz p), .slice q.1 (mL s rs sz p).length q.2], .int .i64 (mE s rs sz p)]) (OwnL (mL s rs sz p)) (fun _ _ => True) := by
  have hvr : vld s rs.reverse = vld s rs := vld_len _ _ _ (List.length_reverse ..)
  have hbad : ¬ mOk s rs sz p → mS s rs sz p = 0 ∧ mL s rs sz p = [] ∧ mE s rs sz p = 2 := fun h => ⟨if_neg h, if_neg h, if_neg h⟩
  refine FnSpec.intro Tryd.func72 rfl Tryd.ntmps72 rfl fun X M w => ?_
  refine JC.seq fun K1 hK1 => ?_
  refine JC.region ?_
  refine J.box rfl rfl rfl rfl rfl rfl fun g3 => ?_
  refine J.alloc rfl rfl rfl rfl Tb.zz87 rfl fun g6 => ?_
  refine J.yl (y_assign rfl rfl) rfl rfl rfl ?_
  refine J.nil ?_
  refine JQ.next hK1 ?_
  refine JC.seq fun K2 hK2 => ?_
  refine JC.seq fun K3 hK3 => ?_
  refine JC.region ?_
  refine J.yl (y_lbW 1 rfl Tb.ag87 Tb.sz87 (by first | (simp [length_wl]; done) | rfl) rfl rfl) rfl rfl rfl ?_
  refine J.callv rfl rfl rfl rfl Tb.cl70 rfl ((rvalid_fn s rs.reverse A n0 k (by rw [List.length_reverse]; exact hn)).to (by rw [hvr])) ?_
  refine J.ylb (y_not rfl rfl) rfl rfl rfl (fun h1 => ?_) (fun h1 => ?_)
  · have hf : vld s rs = false := by simpa using h1
    obtain ⟨e1, e2, e3⟩ := hbad (fun h => by have := h.1; rw [hf] at this; cases this)
    refine J.yl (y_move rfl rfl) rfl rfl rfl ?_
    refine J.gno (b := true) rfl rfl rfl rfl rfl rfl ?_
    refine J.gno (b := true) rfl rfl rfl rfl rfl rfl ?_
    refine J.gno (b := true) rfl rfl rfl rfl rfl rfl ?_
    refine J.gno (b := true) rfl rfl rfl rfl rfl rfl ?_
    refine J.yl (y_pick rfl rfl (fun _ => rfl) (fun h => by cases h)) rfl rfl rfl ?_
    refine J.yl (y_move rfl rfl) rfl rfl rfl ?_
    refine J.gno (b := true) rfl rfl rfl rfl rfl rfl ?_
    refine J.gno (b := true) rfl rfl rfl rfl rfl rfl ?_
    refine J.yl (y_pick rfl rfl (fun _ => rfl) (fun h => by cases h)) rfl rfl rfl ?_
    refine J.nil ?_
    refine JQ.next hK3 ?_
    refine JC.yes rfl ?_
    refine JC.seq fun K4 hK4 => ?_
    refine JC.region ?_
    refine J.yl (y_buildS (pl := [(0, 1), (1, 1)]) (zs := [.int .i64 0, .slice none 0 0]) rfl (by kernel_rfl) (by kernel_rfl) rfl fill_R0) rfl rfl rfl ?_
    refine J.storeW 0 rfl rfl rfl rfl rfl rfl rfl Tb.sz87 (by first | (simp [length_wl]; done) | rfl) (by first | (simp [length_wl]; done) | rfl) (by first | exact u32s1 _ | exact one_vc _ | (simp; done) | (intro u hu; simp only [List.mem_cons, List.not_mem_nil, or_false] at hu; rcases hu with rfl | rfl <;> rfl)) ?_
    refine J.yl (y_assign rfl rfl) rfl rfl rfl ?_
    refine J.nil ?_
    refine JQ.next hK4 ?_
    refine JC.ret ?_
    refine JQ.then_ret ?_
    refine JQ.st ?_ (fun w hs => hs.nilrow 30 32)
    exact ret2 rfl (r_cellA 1 rfl rfl Tb.ag87 Tb.sz87) (r_tmp rfl) fun w hs => by rw [e1, e2, e3]; exact Post.of_st hs (none, 0) (Nat.le_refl _) (.cons_cons _ (List.nil_sublist _)) fun _ _ => trivial
  · have ht : vld s rs = true := by simpa using h1
    have hv3 : 0 ≤ s ∧ s ≤ 4096 ∧ rs.length = ones s.toNat := of_decide_eq_true ht
    refine J.yl (y_move rfl rfl) rfl rfl rfl ?_
    refine J.gyes (y_move rfl rfl) rfl rfl rfl rfl rfl rfl ?_
    refine J.gyes (y_fb rfl Tb.fo87_0 rfl) rfl rfl rfl rfl rfl rfl ?_
    refine J.gyes (y_lb 1 rfl Tb.ag3 rfl rfl rfl) rfl rfl rfl rfl rfl rfl ?_
    refine J.ypG (y_lt rfl rfl rfl) rfl rfl rfl rfl rfl rfl (fun h2 => ?_) (fun h2 => ?_)
    · obtain ⟨e1, e2, e3⟩ := hbad (fun h => by have := h.2.1; omega)
      refine J.yl (y_pick rfl rfl (fun h => by cases h) (fun _ => rfl)) rfl rfl rfl ?_
      refine J.yl (y_move rfl rfl) rfl rfl rfl ?_
      refine J.gno (b := true) rfl rfl rfl rfl rfl rfl ?_
      refine J.gno (b := true) rfl rfl rfl rfl rfl rfl ?_
      refine J.yl (y_pick rfl rfl (fun _ => rfl) (fun h => by cases h)) rfl rfl rfl ?_
      refine J.nil ?_
      refine JQ.next hK3 ?_
      refine JC.yes rfl ?_
      refine JC.seq fun K5 hK5 => ?_
      refine JC.region ?_
      refine J.yl (y_buildS (pl := [(0, 1), (1, 1)]) (zs := [.int .i64 0, .slice none 0 0]) rfl (by kernel_rfl) (by kernel_rfl) rfl fill_R0) rfl rfl rfl ?_
      refine J.storeW 0 rfl rfl rfl rfl rfl rfl rfl Tb.sz87 (by first | (simp [length_wl]; done) | rfl) (by first | (simp [length_wl]; done) | rfl) (by first | exact u32s1 _ | exact one_vc _ | (simp; done) | (intro u hu; simp only [List.mem_cons, List.not_mem_nil, or_false] at hu; rcases hu with rfl | rfl <;> rfl)) ?_
      refine J.yl (y_assign rfl rfl) rfl rfl rfl ?_
      refine J.nil ?_
      refine JQ.next hK5 ?_
      refine JC.ret ?_
      refine JQ.then_ret ?_
      refine JQ.st ?_ (fun w hs => hs.nilrow 30 32)
      exact ret2 rfl (r_cellA 1 rfl rfl Tb.ag87 Tb.sz87) (r_tmp rfl) fun w hs => by rw [e1, e2, e3]; exact Post.of_st hs (none, 0) (Nat.le_refl _) (.cons_cons _ (List.nil_sublist _)) fun _ _ => trivial
    · refine J.yl (y_pick rfl rfl (fun h => by cases h) (fun _ => rfl)) rfl rfl rfl ?_
      refine J.yl (y_move rfl rfl) rfl rfl rfl ?_
      refine J.gyes (y_move rfl rfl) rfl rfl rfl rfl rfl rfl ?_
      refine J.gyes (y_gt rfl rfl rfl) rfl rfl rfl rfl rfl rfl ?_
      refine J.yl (y_pick rfl rfl (fun h => by cases h) (fun _ => rfl)) rfl rfl rfl ?_
      refine J.nil ?_
      refine JQ.next hK3 ?_
      refine JC.condp rfl (fun h3 => ?_) (fun h3 => ?_)
      · obtain ⟨e1, e2, e3⟩ := hbad (fun h => by have := h.2.2.1; omega)
        refine JC.seq fun K6 hK6 => ?_
        refine JC.region ?_
        refine J.yl (y_buildS (pl := [(0, 1), (1, 1)]) (zs := [.int .i64 0, .slice none 0 0]) rfl (by kernel_rfl) (by kernel_rfl) rfl fill_R0) rfl rfl rfl ?_
        refine J.storeW 0 rfl rfl rfl rfl rfl rfl rfl Tb.sz87 (by first | (simp [length_wl]; done) | rfl) (by first | (simp [length_wl]; done) | rfl) (by first | exact u32s1 _ | exact one_vc _ | (simp; done) | (intro u hu; simp only [List.mem_cons, List.not_mem_nil, or_false] at hu; rcases hu with rfl | rfl <;> rfl)) ?_
        refine J.yl (y_assign rfl rfl) rfl rfl rfl ?_
        refine J.nil ?_
        refine JQ.next hK6 ?_
        refine JC.ret ?_
        refine JQ.then_ret ?_
        refine JQ.st ?_ (fun w hs => hs.nilrow 30 32)
        exact ret2 rfl (r_cellA 1 rfl rfl Tb.ag87 Tb.sz87) (r_tmp rfl) fun w hs => by rw [e1, e2, e3]; exact Post.of_st hs (none, 0) (Nat.le_refl _) (.cons_cons _ (List.nil_sublist _)) fun _ _ => trivial
      · obtain ⟨s, rfl⟩ : ∃ q : Nat, s = q := ⟨s.toNat, by omega⟩
        obtain ⟨sz, rfl⟩ : ∃ q : Nat, sz = q := ⟨sz.toNat, by omega⟩
        rw [Int.toNat_natCast] at hv3
        have hmO : mOk (s : Int) rs (sz : Int) p ↔ (pts s (sz - s)).length = p.length := by
          unfold mOk
          rw [Int.toNat_natCast, Int.toNat_natCast]
          exact ⟨fun h => h.2.2.2, fun h => ⟨ht, by omega, by omega, h⟩⟩
        obtain ⟨P, hP⟩ : ∃ P, pts s (sz - s) = P := ⟨_, rfl⟩
        have hPl : P.length ≤ sz - s := by rw [← hP]; exact pts_len (sz - s) s (sz - s) (Nat.le_refl _)
        rw [hP] at hmO
        refine JC.skip ?_
        refine JQ.next hK2 ?_
        refine JC.seq fun K7 hK7 => ?_
        refine JC.region ?_
        refine J.yl (y_fb rfl Tb.fo87_0 rfl) rfl rfl rfl ?_
        refine J.yl (y_lb 1 rfl Tb.ag3 rfl rfl rfl) rfl rfl rfl ?_
        refine J.yl (y_move rfl rfl) rfl rfl rfl ?_
        refine J.callR (Cin := []) rfl rfl rfl rfl Tb.cl130 rfl rfl (parts_fnE s (sz - s) s sz P hP rfl (by omega) (by omega) (by omega)) ?_
        rintro ⟨A8, k8⟩ hk8
        refine J.yl (y_assign rfl rfl) rfl rfl rfl ?_
        refine J.nil ?_
        refine JQ.next hK7 ?_
        refine JC.seq fun K8 hK8 => ?_
        refine JC.seq fun K9 hK9 => ?_
        refine JC.region ?_
        refine J.yl (y_move rfl rfl) rfl rfl rfl ?_
        refine J.yl (y_len rfl Tryd.underlying174 rfl) rfl rfl rfl ?_
        refine J.yl (y_move rfl rfl) rfl rfl rfl ?_
        refine J.yl (y_len rfl Tryd.underlying22 rfl) rfl rfl rfl ?_
        refine J.yl (y_ne rfl rfl rfl) rfl rfl rfl ?_
        refine J.nil ?_
        refine JQ.next hK9 ?_
        refine JC.condn rfl (fun h4 => ?_) (fun h4 => ?_)
        · obtain ⟨e1, e2, e3⟩ := hbad (fun h => by have := hmO.1 h; omega)
          refine JC.seq fun K10 hK10 => ?_
          refine JC.region ?_
          refine J.yl (y_buildS (pl := [(0, 1), (1, 1)]) (zs := [.int .i64 0, .slice none 0 0]) rfl (by kernel_rfl) (by kernel_rfl) rfl fill_R0) rfl rfl rfl ?_
          refine J.storeW 1 rfl rfl rfl rfl rfl rfl rfl Tb.sz87 (by first | (simp [length_wl]; done) | rfl) (by first | (simp [length_wl]; done) | rfl) (by first | exact u32s1 _ | exact one_vc _ | (simp; done) | (intro u hu; simp only [List.mem_cons, List.not_mem_nil, or_false] at hu; rcases hu with rfl | rfl <;> rfl)) ?_
          refine J.yl (y_assign rfl rfl) rfl rfl rfl ?_
          refine J.nil ?_
          refine JQ.next hK10 ?_
          refine JC.ret ?_
          refine JQ.then_ret ?_
          refine JQ.st ?_ (fun w hs => hs.nilrow 30 32)
          exact ret2 rfl (r_cellA 2 rfl rfl Tb.ag87 Tb.sz87) (r_tmp rfl) fun w hs => by rw [e1, e2, e3]; exact Post.of_st hs (none, 0) (Nat.le_refl _) (.cons_cons _ (List.nil_sublist _)) fun _ _ => trivial
        · have hPp : P.length = p.length := by omega
          have hok : mOk (s : Int) rs (sz : Int) p := hmO.2 hPp
          have e1 : mS s rs sz p = sz := if_pos hok
          have e3 : mE s rs sz p = 0 := if_pos hok
          have e2 : mL s rs sz p = (putAll P p (s, rs)).2.reverse := by rw [mL, if_pos hok, Int.toNat_natCast, Int.toNat_natCast, hP]
          refine JC.skip ?_
          refine JQ.next hK8 ?_
          refine JC.seq fun K11 hK11 => ?_
          refine JC.region ?_
          refine J.yl (y_lbW 2 rfl Tb.ag87 Tb.sz87 (by first | (simp [length_wl]; done) | rfl) rfl rfl) rfl rfl rfl ?_
          refine J.callR (Cin := []) rfl rfl rfl rfl Tb.cl132 rfl rfl (open_fnE s rs _ A n0 k hn (by omega) (by omega) rfl (fun w h => hA w h.1)) ?_
          rintro ⟨A2, k2⟩ hk2
          refine J.yl (y_assign rfl rfl) rfl rfl rfl ?_
          refine J.nil ?_
          refine JQ.next hK11 ?_
          refine JC.seq fun K12 hK12 => ?_
          refine JC.seq fun K13 hK13 => ?_
          refine JC.region ?_
          refine J.yl (y_assign rfl rfl) rfl rfl rfl ?_
          refine J.nil ?_
          refine JQ.next hK13 ?_
          refine JC.block ?_
          refine JC.loopE (σ := Nat × Nat × List H × Option Addr × Nat) (M := fun q => [(9, .slice q.2.2.2.1 (trs q.2.1 q.2.2.1).reverse.length q.2.2.2.2), (10, .int .i64 (q.1 : Int))]) (kp := [(2, _), (3, _), (6, _), (7, _), (8, _)]) (hkp := (okE_cons rfl (okE_cons rfl (okE_cons rfl (okE_cons rfl (okE_cons rfl okE_nil)))))) (Dc := fun q => OwnT (trs q.2.1 q.2.2.1).reverse (q.2.2.2.1, q.2.2.2.2) ++ (OwnN P (A8, k8) ++ [.box g6 87 [.int .i64 0, .slice none 0 0], .box g3 87 [.int .i64 (s : Int), .slice A n0 k]])) (H := fun _ => F) (Ψ := fun q => q.1 ≤ P.length ∧ q.2.1 ≤ sz ∧ P.drop q.1 = pts q.2.1 (sz - q.2.1) ∧ putAll P p (s, rs) = putAll (P.drop q.1) (p.drop q.1) (q.2.1, q.2.2.1) ∧ (trs q.2.1 q.2.2.1).reverse.length ≤ q.2.2.2.2 ∧ q.2.2.1.length = ones q.2.1) (μ := fun q => P.length - q.1) (0, s, rs, A2, k2) ⟨Nat.zero_le _, by dsimp only; omega, by dsimp only; rw [List.drop_zero, hP], rfl, hk2, hv3.2.2⟩ (okE_cons rfl (okE_cons rfl okE_nil)) (fun w h => h) (fun sK14 hK14 K14 againK14 => ?_)
          obtain ⟨i, z, r, A3, k3⟩ := sK14
          dsimp only at hK14 againK14 ⊢
          obtain ⟨hi, hz, hd, hput, hk3, hro⟩ := hK14
          refine JC.seq fun K15 hK15 => ?_
          refine JC.seq fun K16 hK16 => ?_
          refine JC.region ?_
          refine J.yl (y_move rfl rfl) rfl rfl rfl ?_
          refine J.yl (y_move rfl rfl) rfl rfl rfl ?_
          refine J.yl (y_len rfl Tryd.underlying174 rfl) rfl rfl rfl ?_
          refine J.yl (y_lt rfl rfl rfl) rfl rfl rfl ?_
          refine J.nil ?_
          refine JQ.next hK16 ?_
          have hsum := trs_sum z r hro
          have htl := trs_len z r hro
          have hb2 := ones_le z (by omega)
          refine JC.condp rfl (fun h5 => ?_) (fun h5 => ?_)
          · obtain ⟨n, hnn⟩ : ∃ n, P[i]? = some n := ⟨_, List.getElem?_eq_getElem (show i < P.length by omega)⟩
            obtain ⟨x, hx⟩ : ∃ x, p[i]? = some x := ⟨_, List.getElem?_eq_getElem (show i < p.length by omega)⟩
            obtain ⟨hp0, hp1, hp2⟩ := pts_drop hd hnn
            obtain ⟨js, es, hs1, hs2, hs3⟩ := stp_spec (sz - z) z (sz - z) (Nat.le_refl _) (by omega)
            have hn2 : n = 2 ^ js := by rw [hp1, es]
            rw [es] at hp2
            subst hn2
            have hzd0 : z / 2 ^ js * 2 ^ js = z := Nat.div_mul_cancel (Nat.dvd_of_mod_eq_zero hs2)
            have hrj : r.length = ones (z / 2 ^ js) := by rw [hro, ← ones_shift (z / 2 ^ js) js, hzd0]
            have hclen := carry_len (z / 2 ^ js) (z / 2 ^ js) r x (Nat.le_refl _) hrj
            have hz2 : (z / 2 ^ js + 1) * 2 ^ js = z + 2 ^ js := by rw [Nat.succ_mul, hzd0]
            have hro2 : (carry (z / 2 ^ js) r x).length = ones (z + 2 ^ js) := by rw [hclen, ← hz2, ones_shift]
            have hpj : 0 < 2 ^ js := Nat.pow_pos (by decide)
            have hmod2 : (z + 2 ^ js) % 2 ^ js = 0 := by rw [Nat.add_mod_right]; exact hs2
            have hdiv2 : (z + 2 ^ js) / 2 ^ js = z / 2 ^ js + 1 := Nat.add_div_right z hpj
            have hadd : (addT (2 ^ js) x (trs z r)).reverse = (trs (z + 2 ^ js) (carry (z / 2 ^ js) r x)).reverse := by
              rw [trs_scale z js r hs2, addT_carry (z / 2 ^ js) (2 ^ js) (z / 2 ^ js) r x hpj (Nat.le_refl _) hrj, trs_scale (z + 2 ^ js) js _ hmod2, hdiv2]
            have hPd : P.drop i = 2 ^ js :: P.drop (i + 1) := by rw [List.drop_eq_getElem_cons (by omega), (List.getElem?_eq_some_iff.1 hnn).2]
            have hpd : p.drop i = x :: p.drop (i + 1) := by rw [List.drop_eq_getElem_cons (by omega), (List.getElem?_eq_some_iff.1 hx).2]
            have hput2 : putAll P p (s, rs) = putAll (P.drop (i + 1)) (p.drop (i + 1)) (z + 2 ^ js, carry (z / 2 ^ js) r x) := by rw [hput, hPd, hpd]; rfl
            refine JC.skip ?_
            refine JQ.next hK15 ?_
            refine JC.seq fun K17 hK17 => ?_
            refine JC.block ?_
            refine JC.drawM [false, true, false, false] (by kernel_rfl) ?_
            refine D.take 0 (y_move rfl rfl) rfl rfl rfl rfl (by kernel_rfl) (by kernel_rfl) (by kernel_rfl) (PQ.block (PQ.next (PQ.next (PQ.block (PQ.next PQ.body))))) ?_
            refine D.take 2 (y_move rfl rfl) rfl rfl rfl rfl (by kernel_rfl) (by kernel_rfl) (by kernel_rfl) (PQ.block (PQ.next (PQ.next (PQ.block (PQ.next PQ.body))))) ?_
            refine D.take 3 (y_move rfl rfl) rfl rfl rfl rfl (by kernel_rfl) (by kernel_rfl) (by kernel_rfl) (PQ.block (PQ.next (PQ.next (PQ.block (PQ.next PQ.body))))) ?_
            refine D.take 6 (y_move rfl rfl) rfl rfl rfl rfl (by kernel_rfl) (by kernel_rfl) (by kernel_rfl) (PQ.block (PQ.next (PQ.next (PQ.block (PQ.next PQ.body))))) ?_
            refine D.take 7 (y_move rfl rfl) rfl rfl rfl rfl (by kernel_rfl) (by kernel_rfl) (by kernel_rfl) (PQ.block (PQ.next (PQ.next (PQ.block (PQ.next PQ.body))))) ?_
            refine D.take 4 (y_idxN i rfl Tryd.underlying174 Tb.sz3 rfl rfl rfl (by omega) (fun w hs => (strow hs 0 rfl).some_ (by intro e; have := congrArg List.length e; rw [ints_len, List.length_nil] at this; omega))) rfl rfl rfl rfl (by kernel_rfl) (by kernel_rfl) (by kernel_rfl) (PQ.block (PQ.next (PQ.next (PQ.block (PQ.next PQ.body))))) ?_
            refine D.take 5 (y_lsl rfl Tb.ag3 rfl (fun w hs => strow hs 0 rfl) (get_mul_one (ints_get P i _ hnn))) rfl rfl rfl rfl (by kernel_rfl) (by kernel_rfl) (by kernel_rfl) (PQ.block (PQ.next (PQ.next (PQ.block (PQ.next PQ.body))))) ?_
            refine D.take 8 (y_hidx i rfl Tryd.underlying22 Tb.sz30 rfl rfl rfl hm (by omega) (fun w hs => hB w hs.fact)) rfl rfl rfl rfl (by kernel_rfl) (by kernel_rfl) (by kernel_rfl) (PQ.block (PQ.next (PQ.next (PQ.block (PQ.next PQ.body))))) ?_
            refine D.take 9 (y_hld x rfl Tb.ag30 Tb.sz30 rfl hx (fun w hs => hB w hs.fact)) rfl rfl rfl rfl (by kernel_rfl) (by kernel_rfl) (by kernel_rfl) (PQ.block (PQ.next (PQ.next (PQ.block (PQ.next PQ.body))))) ?_
            refine D.take 10 (y_buildS (cs := tc (2 ^ js, x)) (pl := [(0, 1), (1, 32)]) (zs := .int .i64 0 :: hc H.zero) rfl (by kernel_rfl) (by kernel_rfl) rfl (fill_T _ _)) rfl rfl rfl rfl (by kernel_rfl) (by kernel_rfl) (by kernel_rfl) (PQ.block (PQ.next (PQ.next (PQ.block (PQ.next PQ.body))))) ?_
            refine D.two 1 11 (by kernel_rfl) ?_ ?_
            · refine DS.ofJ rfl fun KhK19 hK19 => ?_
              refine J.appNilG (tcs (trs z r).reverse) rfl rfl rfl rfl rfl rfl Tryd.underlying176 Tb.zz180 Tb.sz180 Tb.by180 rfl (by decide) (tcs_len _) (fun w hs => strow hs 0 rfl) (tcs1 _) (by rw [List.length_reverse]; omega) (by decide) fun A4 k4 hk4 => ?_
              refine J.nil ?_
              refine hK19 _ _ _ (fun w hs => hs.mask [false, false, true, false, false]) ?_
              refine D.ofJ 11 (by kernel_rfl) rfl fun KhK20 hK20 => ?_
              refine J.bs1 rfl rfl rfl rfl rfl Tryd.underlying176 Tb.zz180 Tb.sz180 rfl (by decide) rfl (by first | rfl | exact tcl _ | (simp only [List.length_cons, hcl]; done)) fun g54 => ?_
              refine J.nil ?_
              refine hK20 _ _ _ (fun w hs => hs.mask [false, false, false, true, false, false]) ?_
              refine D.ofJ 12 (by kernel_rfl) rfl fun KhK22 hK22 => ?_
              refine J.appendG 1 rfl rfl rfl rfl rfl rfl Tryd.underlying176 Tb.zz180 Tb.sz180 Tb.by180 rfl (by decide) rfl (show (tc (2 ^ js, x)).length = 1 * 33 by rw [tcl]) (fun w hs => .inr ⟨rfl, At.box (hs.get (i := 0) rfl)⟩) (by rw [← tcs_one]; exact tcs1 _) (by rw [List.length_reverse]; omega) (by decide) (show _ = ((2 ^ js, x) :: trs z r).reverse.length by simp) (show _ = tcs ((2 ^ js, x) :: trs z r).reverse by rw [List.reverse_cons, tcs_app, tcs_one]) fun A5 k5 _ hk5 => ?_
              refine J.nil ?_
              refine hK22 _ _ _ (fun w hs => hs.mask [false, false, false, true, false, false]) ?_
              refine D.front 1 rfl ?_
              refine D.ofJ 13 (by kernel_rfl) rfl fun KhK24 hK24 => ?_
              refine J.callR (Cin := [_]) rfl rfl rfl rfl Tb.cl133 rfl rfl (join_fnE (2 ^ js) x (trs z r) _ A5 k5 hk5 (by omega) (by omega) hadd) ?_
              rintro ⟨A6, k6⟩ hk6
              refine J.nil ?_
              refine hK24 _ _ _ (fun w hs => hs.mask [false, false, false, true, false, false]) ?_
              refine D.take 14 (y_assign rfl rfl) rfl rfl rfl rfl (by kernel_rfl) (by kernel_rfl) (by kernel_rfl) (PQ.block (PQ.next (PQ.next (PQ.block (PQ.next PQ.body))))) ?_
              refine D.done (by kernel_rfl) ?_
              refine JQ.block_normal (JQ.next hK17 ?_)
              refine JC.region ?_
              refine J.yl (y_move rfl rfl) rfl rfl rfl ?_
              refine J.yl (y_add64 rfl rfl rfl (by omega)) rfl rfl rfl ?_
              refine J.yl (y_assign rfl rfl) rfl rfl rfl ?_
              refine J.nil ?_
              refine JQ.front 5 rfl ?_
              refine JQ.front 5 rfl ?_
              refine JQ.front 5 rfl ?_
              refine JQ.front 3 rfl ?_
              refine JQ.keepn 4 ?_
              refine againK14 (i + 1, z + 2 ^ js, carry (z / 2 ^ js) r x, A6, k6) _ ⟨by dsimp only; omega, by dsimp only; omega, by dsimp only; rw [hp2, show sz - (z + 2 ^ js) = sz - z - 2 ^ js by omega], hput2, hk6, hro2⟩ (by dsimp only; omega) (okE_cons rfl (okE_cons (slotI (by dsimp only; omega)) okE_nil)) (okE_cons rfl (okE_cons rfl (okE_cons rfl (okE_cons rfl (okE_cons rfl okE_nil)))))
            · refine DS.ofJ rfl fun KhK25 hK25 => ?_
              refine J.bs1 rfl rfl rfl rfl rfl Tryd.underlying176 Tb.zz180 Tb.sz180 rfl (by decide) rfl (by first | rfl | exact tcl _ | (simp only [List.length_cons, hcl]; done)) fun g54 => ?_
              refine J.nil ?_
              refine hK25 _ _ _ (fun w hs => hs.mask [false, false, true, false, false]) ?_
              refine D.ofJ 1 (by kernel_rfl) rfl fun KhK27 hK27 => ?_
              refine J.appNilG (tcs (trs z r).reverse) rfl rfl rfl rfl rfl rfl Tryd.underlying176 Tb.zz180 Tb.sz180 Tb.by180 rfl (by decide) (tcs_len _) (fun w hs => strow hs 1 rfl) (tcs1 _) (by rw [List.length_reverse]; omega) (by decide) fun A4 k4 hk4 => ?_
              refine J.nil ?_
              refine hK27 _ _ _ (fun w hs => hs.mask [false, false, false, true, false, false]) ?_
              refine D.ofJ 12 (by kernel_rfl) rfl fun KhK29 hK29 => ?_
              refine J.appendG 0 rfl rfl rfl rfl rfl rfl Tryd.underlying176 Tb.zz180 Tb.sz180 Tb.by180 rfl (by decide) rfl (show (tc (2 ^ js, x)).length = 1 * 33 by rw [tcl]) (fun w hs => .inr ⟨rfl, At.box (hs.get (i := 1) rfl)⟩) (by rw [← tcs_one]; exact tcs1 _) (by rw [List.length_reverse]; omega) (by decide) (show _ = ((2 ^ js, x) :: trs z r).reverse.length by simp) (show _ = tcs ((2 ^ js, x) :: trs z r).reverse by rw [List.reverse_cons, tcs_app, tcs_one]) fun A5 k5 _ hk5 => ?_
              refine J.nil ?_
              refine hK29 _ _ _ (fun w hs => hs.mask [false, false, false, true, false, false]) ?_
              refine D.ofJ 13 (by kernel_rfl) rfl fun KhK31 hK31 => ?_
              refine J.callR (Cin := [_]) rfl rfl rfl rfl Tb.cl133 rfl rfl (join_fnE (2 ^ js) x (trs z r) _ A5 k5 hk5 (by omega) (by omega) hadd) ?_
              rintro ⟨A6, k6⟩ hk6
              refine J.nil ?_
              refine hK31 _ _ _ (fun w hs => hs.mask [false, false, false, true, false, false]) ?_
              refine D.take 14 (y_assign rfl rfl) rfl rfl rfl rfl (by kernel_rfl) (by kernel_rfl) (by kernel_rfl) (PQ.block (PQ.next (PQ.next (PQ.block (PQ.next PQ.body))))) ?_
              refine D.done (by kernel_rfl) ?_
              refine JQ.block_normal (JQ.next hK17 ?_)
              refine JC.region ?_
              refine J.yl (y_move rfl rfl) rfl rfl rfl ?_
              refine J.yl (y_add64 rfl rfl rfl (by omega)) rfl rfl rfl ?_
              refine J.yl (y_assign rfl rfl) rfl rfl rfl ?_
              refine J.nil ?_
              refine JQ.front 5 rfl ?_
              refine JQ.front 5 rfl ?_
              refine JQ.front 5 rfl ?_
              refine JQ.front 3 rfl ?_
              refine JQ.keepn 4 ?_
              refine againK14 (i + 1, z + 2 ^ js, carry (z / 2 ^ js) r x, A6, k6) _ ⟨by dsimp only; omega, by dsimp only; omega, by dsimp only; rw [hp2, show sz - (z + 2 ^ js) = sz - z - 2 ^ js by omega], hput2, hk6, hro2⟩ (by dsimp only; omega) (okE_cons rfl (okE_cons (slotI (by dsimp only; omega)) okE_nil)) (okE_cons rfl (okE_cons rfl (okE_cons rfl (okE_cons rfl (okE_cons rfl okE_nil)))))
          · have hdn : P.drop i = [] := List.drop_of_length_le (by omega)
            have hzs : z = sz := by
              by_cases h0 : sz - z = 0
              · omega
              · rw [hdn, pts_step h0] at hd; cases hd
            subst hzs
            have e4 : mL s rs z p = r.reverse := by rw [e2, hput, hdn]; rfl
            refine JC.exit ?_
            refine JQ.then_exit (JQ.then_exit (JQ.block_hit (JQ.next hK12 ?_)))
            refine JC.seq fun K32 hK32 => ?_
            refine JC.region ?_
            refine J.yl (y_move rfl rfl) rfl rfl rfl ?_
            refine J.callR (Cin := []) rfl rfl rfl rfl Tb.cl134 rfl rfl (close_fnE (trs z r).reverse z r.reverse A3 _ k3 rfl (by rw [sumT_rev, hsum]) (trs_snd z r hro) (by omega) (by rw [List.length_reverse]; omega) (fun w h => ckrow 0 rfl h)) ?_
            rintro ⟨A4, k4⟩ hk4
            refine J.storeW 3 rfl rfl rfl rfl rfl rfl rfl Tb.sz87 (by first | (simp [length_wl]; done) | rfl) (by first | (simp [length_wl]; done) | rfl) (by first | exact u32s1 _ | exact one_vc _ | (simp; done) | (intro u hu; simp only [List.mem_cons, List.not_mem_nil, or_false] at hu; rcases hu with rfl | rfl <;> rfl)) ?_
            refine J.yl (y_assign rfl rfl) rfl rfl rfl ?_
            refine J.nil ?_
            refine JQ.next hK32 ?_
            refine JC.ret ?_
            exact ret2 rfl (r_cellA 3 rfl rfl Tb.ag87 Tb.sz87) (r_tmp rfl) fun w hs => by rw [e1, e3, e4]; exact Post.of_st hs (A4, k4) hk4 (.cons_cons _ (List.nil_sublist _)) fun _ _ => trivial
end Go.Proofs.YtjkfeonbioccmaaDoor
namespace Go.Proofs.YtjkfeonbioccmaaDoor
open Go Go.Sx Go.RowKit
set_option linter.unusedVariables false
set_option linter.unusedSimpArgs false
set_option maxRecDepth 100000
set_option maxHeartbeats 40000000
variable {Gl F : World → Prop}
theorem rgof_fnE (l : List H) (S : Int) (L : List H) (E : Int) (h1 : xS 0 [] l = S) (h2 : xL 0 [] l = L) (h3 : xE 0 [] l = E) (B : Option Addr) (m km : Nat) (hm : l.length = m) (hB : ∀ w, F w → Sl w B (hcs l)) :
    FnSpec Tryd.prog Gs 60 [.slice B m km] [] F (ι := Option Addr × Nat) (fun q => L.length ≤ q.2) (fun q => .tuple #[.agg #[.int .i64 S, .slice q.1 L.length q.2], .int .i64 E]) (OwnL L) (fun _ _ => True) := by
  subst h1 h2 h3; exact rgof_fn l B m km hm hB
theorem rgappend_fnE (s : Int) (rs : List H) (x : H) (S : Int) (L : List H) (E : Int) (h1 : xS s rs [x] = S) (h2 : xL s rs [x] = L) (h3 : xE s rs [x] = E) (A : Option Addr) (n k : Nat) (hn : rs.length = n) (hN : n ≤ 1000000) (hA : ∀ w, F w → Sl w A (hcs rs.reverse)) (h64 : in64 s) :
    FnSpec Tryd.prog Gs 64 [.agg #[.int .i64 s, .slice A n k], hv x] [] F (ι := Option Addr × Nat) (fun q => L.length ≤ q.2) (fun q => .tuple #[.agg #[.int .i64 S, .slice q.1 L.length q.2], .int .i64 E]) (OwnL L) (fun _ _ => True) := by
  subst h1 h2 h3; exact rgappend_fn s rs x A n k hn hN hA h64
theorem extend_fnE (s : Int) (rs l : List H) (S : Int) (L : List H) (E : Int) (h1 : xS s rs l = S) (h2 : xL s rs l = L) (h3 : xE s rs l = E) (A B : Option Addr) (n k m km : Nat) (hn : rs.length = n) (hm : l.length = m) (hN : n ≤ 1000000) (hA : ∀ w, F w → Sl w A (hcs rs.reverse)) (hB : ∀ w, F w → Sl w B (hcs l)) (h64 : in64 s) :
    FnSpec Tryd.prog Gs 66 [.agg #[.int .i64 s, .slice A n k], .slice B m km] [] F (ι := Option Addr × Nat) (fun q => L.length ≤ q.2) (fun q => .tuple #[.agg #[.int .i64 S, .slice q.1 L.length q.2], .int .i64 E]) (OwnL L) (fun _ _ => True) := by
  subst h1 h2 h3; exact extend_fn s rs l A B n k m km hn hm hN hA hB h64
theorem part_fnE (a : Int) (l : List H) (L : List H) (E : Int) (h1 : pL a l = L) (h2 : pE a l = E) (B : Option Addr) (m km : Nat) (hm : l.length = m) (hkm : m ≤ km) (hM : m ≤ 1000000) (hB : ∀ w, F w → Sl w B (hcs l)) (h64 : in64 a) :
    FnSpec Tryd.prog Gs 58 [.int .i64 a, .slice B m km] [] F (ι := Option Addr × Nat) (fun q => L.length ≤ q.2) (fun q => .tuple #[.slice q.1 L.length q.2, .int .i64 E]) (OwnL L) (fun _ _ => True) := by
  subst h1 h2; exact part_fn a l B m km hm hkm hM hB h64
theorem merge_fnE (s : Int) (rs : List H) (sz : Int) (p : List H) (S : Int) (L : List H) (E : Int) (h1 : mS s rs sz p = S) (h2 : mL s rs sz p = L) (h3 : mE s rs sz p = E) (A B : Option Addr) (n0 k m km : Nat) (hn : rs.length = n0) (hm : p.length = m) (hkm : m ≤ km) (hN : n0 ≤ 1000000) (hA : ∀ w, F w → Sl w A (hcs rs.reverse)) (hB : ∀ w, F w → Sl w B (hcs p)) :
    FnSpec Tryd.prog Gs 71 [.agg #[.int .i64 s, .slice A n0 k], .int .i64 sz, .slice B m km] [] F (ι := Option Addr × Nat) (fun q => L.length ≤ q.2) (fun q => .tuple #[.agg #[.int .i64 S, .slice q.1 L.length q.2], .int .i64 E]) (OwnL L) (fun _ _ => True) := by
  subst h1 h2 h3; exact merge_fn s rs sz p A B n0 k m km hn hm hkm hN hA hB
/-! ### the chapter's leaves -/
theorem can5 (a b c d e : H) : rng [a, b, c, d, e] = [e, root [a, b, c, d]] := by
  rw [rng, show [a, b, c, d, e].length = 5 from rfl, can_odd _ (by decide), can_even _ (by decide), can_odd _ (by decide), can_zero]
  rfl
theorem pts14 : pts 1 4 = [1, 2, 1] := by kernel_rfl
theorem xok5 (a b c d e : H) : xOk 0 [] [a, b, c, d, e] := ⟨by decide, by show ¬ ((4096 : Int) - 0 < ((5 : Nat) : Int)); decide⟩
theorem ext_of (l : List H) : (ext 0 [] l).2 = rng l := by
  have := ext_rng l []
  rw [List.nil_append] at this
  exact congrArg Prod.snd this
theorem of5 (a b c d e : H) : xS 0 [] [a, b, c, d, e] = 5 ∧ xL 0 [] [a, b, c, d, e] = [root [a, b, c, d], e] ∧ xE 0 [] [a, b, c, d, e] = 0 := by
  refine ⟨by rw [xS, if_pos (xok5 a b c d e)]; rfl, ?_, rfl⟩
  rw [xL, if_pos (xok5 a b c d e), show Int.toNat 0 = 0 from rfl, ext_of, can5]
  rfl
theorem of1 (a : H) : xS 0 [] [a] = 1 ∧ xL 0 [] [a] = [a] ∧ xE 0 [] [a] = 0 := ⟨rfl, rfl, rfl⟩
theorem app6 (r e f : H) : xS 5 [e, r] [f] = 6 ∧ xL 5 [e, r] [f] = [r, node e f] ∧ xE 5 [e, r] [f] = 0 := ⟨rfl, rfl, rfl⟩
theorem part4 (b c d e : H) : pL 1 [b, c, d, e] = [b, node c d, e] ∧ pE 1 [b, c, d, e] = 0 := by
  refine ⟨?_, rfl⟩
  have hno : ¬ pBad 1 [b, c, d, e] := by
    unfold pBad
    show ¬ ((1 : Int) < 0 ∨ (4096 : Int) < 1 ∨ (4096 : Int) - 1 < ((4 : Nat) : Int))
    decide
  rw [pL, if_neg hno, show Int.toNat 1 = 1 from rfl, show [b, c, d, e].length = 4 from rfl, pts14, ← root2 c d]
  rfl
theorem merge5 (a b cd e : H) : mS 1 [a] 5 [b, cd, e] = 5 ∧ mL 1 [a] 5 [b, cd, e] = [node (node a b) cd, e] ∧ mE 1 [a] 5 [b, cd, e] = 0 := ⟨rfl, rfl, rfl⟩
theorem first_nz (a b c d e f : H) (h : someL 6 9 = [a, b, c, d, e, f]) : node (node a b) (node c d) ≠ H.zero := by
  have h1 : (!((node (node ((someL 6 9)[0]?.getD H.zero) ((someL 6 9)[1]?.getD H.zero)) (node ((someL 6 9)[2]?.getD H.zero) ((someL 6 9)[3]?.getD H.zero))).b.headD 0 == 0)) = true := by kernel_rfl
  rw [h] at h1
  intro h2
  rw [show ([a, b, c, d, e, f][0]?.getD H.zero) = a from rfl, show ([a, b, c, d, e, f][1]?.getD H.zero) = b from rfl, show ([a, b, c, d, e, f][2]?.getD H.zero) = c from rfl, show ([a, b, c, d, e, f][3]?.getD H.zero) = d from rfl, h2] at h1
  exact absurd h1 (by decide)
-- AUX
theorem ranged_fn : PureFn Tryd.prog Gs 57 [] F (.bool true) := by
  obtain ⟨a, b, c, d, e, f, hl⟩ : ∃ a b c d e f, someL 6 9 = [a, b, c, d, e, f] := ⟨_, _, _, _, _, _, rfl⟩
  have hnz := first_nz a b c d e f hl
  have hr4 := root4' a b c d
  obtain ⟨R, hR⟩ : ∃ x, node (node a b) (node c d) = x := ⟨_, rfl⟩
  obtain ⟨q1, q2, q3⟩ := of5 a b c d e
  rw [hr4, hR] at q2
  rw [hR] at hnz hr4
  obtain ⟨ef, hef⟩ : ∃ x, node e f = x := ⟨_, rfl⟩
  obtain ⟨p1, p2, p3⟩ := app6 R e f
  rw [hef] at p2
  obtain ⟨t1, t2⟩ := part4 b c d e
  obtain ⟨u1, u2, u3⟩ := merge5 a b (node c d) e
  rw [hR] at u2
  obtain ⟨cd, hcd⟩ : ∃ x, node c d = x := ⟨_, rfl⟩
  rw [hcd] at t1 u1 u2 u3
  refine FnSpec.intro Tryd.func57 rfl Tryd.ntmps57 rfl fun X M w => ?_
  refine JC.seq fun K1 hK1 => ?_
  refine JC.region ?_
  refine J.yl (y_assign rfl rfl) rfl rfl rfl ?_
  refine J.nil ?_
  refine JQ.next hK1 ?_
  refine JC.seq fun K2 hK2 => ?_
  refine JC.region ?_
  refine J.callR (Cin := []) rfl rfl rfl rfl Tb.cl29 rfl rfl (some_fnE 6 6 9 [a, b, c, d, e, f] hl rfl (by omega)) ?_
  rintro ⟨A, k⟩ hk
  refine J.yl (y_assign rfl rfl) rfl rfl rfl ?_
  refine J.nil ?_
  refine JQ.next hK2 ?_
  refine JC.seq fun K3 hK3 => ?_
  refine JC.region ?_
  refine J.yl (y_move rfl rfl) rfl rfl rfl ?_
  refine J.yl (y_cuttoN 5 rfl Tryd.underlying22 Tb.sz30 rfl rfl rfl (by omega)) rfl rfl rfl ?_
  refine J.callR (Cin := []) rfl rfl rfl rfl Tb.cl60 rfl rfl (rgof_fnE [a, b, c, d, e] 5 [R, e] 0 q1 q2 q3 A 5 k rfl (fun w h => (ckrow 0 rfl h : Sl w A (hcs [a, b, c, d, e, f])).htake 5)) ?_
  rintro ⟨A1, k1⟩ hk1
  refine J.yl (y_move rfl rfl) rfl rfl rfl ?_
  refine J.yl (y_extract rfl rfl rfl) rfl rfl rfl ?_
  refine J.yl (y_extract rfl rfl rfl) rfl rfl rfl ?_
  refine J.alloc rfl rfl rfl rfl Tb.zz87 rfl fun g2 => ?_
  refine J.storeW 0 rfl rfl rfl rfl rfl rfl rfl Tb.sz87 (by first | (simp [length_wl]; done) | rfl) (by first | (simp [length_wl]; done) | rfl) (by first | exact u32s1 _ | exact one_vc _ | (simp; done) | (intro u hu; simp only [List.mem_cons, List.not_mem_nil, or_false] at hu; rcases hu with rfl | rfl <;> rfl)) ?_
  refine J.yl (y_assign rfl rfl) rfl rfl rfl ?_
  refine J.nil ?_
  refine JQ.next hK3 ?_
  refine JC.seq fun K4 hK4 => ?_
  refine JC.cutE (σ := Nat × Option Addr × Nat) (M := fun q => [(4, .pointer (some ⟨q.1, 0, none⟩)), (5, .int .i64 0)]) (kp := [(1, _), (2, _), (3, _)]) (hkp := (okE_cons rfl (okE_cons rfl (okE_cons rfl okE_nil)))) (Dc := fun q => [.box q.1 87 [.int .i64 6, .slice q.2.1 2 q.2.2], .row (.slice q.2.1 2 q.2.2) 30 32 2 (hcs [R, ef]), .box g2 87 [.int .i64 5, .slice A1 2 k1], .row (.slice A1 2 k1) 30 32 2 (hcs [R, e]), .row (.slice A 6 k) 30 32 6 (hcs [a, b, c, d, e, f])]) (H := fun _ => F) (Ψ := fun q => 2 ≤ q.2.2) (fun K5 againK5 => ?_) (fun sK5 hK5 => ?_)
  refine JC.drawM [true, true, true] (by as_aux_lemma => kernel_rfl) ?_
  refine D.take 0 (y_lbW 0 rfl Tb.ag87 Tb.sz87 (by first | (simp [length_wl]; done) | rfl) rfl rfl) rfl rfl rfl rfl (by as_aux_lemma => kernel_rfl) (by as_aux_lemma => kernel_rfl) (by as_aux_lemma => kernel_rfl) (PQ.next (PQ.next PQ.body)) ?_
  refine D.take 1 (y_move rfl rfl) rfl rfl rfl rfl (by as_aux_lemma => kernel_rfl) (by as_aux_lemma => kernel_rfl) (by as_aux_lemma => kernel_rfl) (PQ.next (PQ.next PQ.body)) ?_
  · refine D.take 2 (y_hidx (n := 6) (l := [a, b, c, d, e, f]) 5 rfl Tryd.underlying22 Tb.sz30 rfl rfl rfl rfl (by omega) (fun w hs => strow hs 2 rfl)) rfl rfl rfl rfl (by as_aux_lemma => kernel_rfl) (by as_aux_lemma => kernel_rfl) (by as_aux_lemma => kernel_rfl) (PQ.next (PQ.next PQ.body)) ?_
    refine D.take 3 (y_hld (l := [a, b, c, d, e, f]) f rfl Tb.ag30 Tb.sz30 rfl rfl (fun w hs => strow hs 2 rfl)) rfl rfl rfl rfl (by as_aux_lemma => kernel_rfl) (by as_aux_lemma => kernel_rfl) (by as_aux_lemma => kernel_rfl) (PQ.next (PQ.next PQ.body)) ?_
    refine D.two 4 8 (by as_aux_lemma => kernel_rfl) ?_ ?_
    · refine DS.ofJ rfl fun KhK7 hK7 => ?_
      refine J.callR (Cin := []) rfl rfl rfl rfl Tb.cl64 rfl rfl (rgappend_fnE 5 [e, R] f 6 [R, ef] 0 p1 p2 p3 A1 2 k1 rfl (by omega) (fun w h => ckrow 1 rfl h) (by unfold in64; omega)) ?_
      rintro ⟨A2, k2⟩ hk2
      refine J.nil ?_
      refine hK7 _ _ _ (fun w hs => hs.mask [false, true, true, true]) ?_
      refine D.take 5 (y_move rfl rfl) rfl rfl rfl rfl (by as_aux_lemma => kernel_rfl) (by as_aux_lemma => kernel_rfl) (by as_aux_lemma => kernel_rfl) (PQ.next (PQ.next PQ.body)) ?_
      refine D.take 6 (y_extract rfl rfl rfl) rfl rfl rfl rfl (by as_aux_lemma => kernel_rfl) (by as_aux_lemma => kernel_rfl) (by as_aux_lemma => kernel_rfl) (PQ.next (PQ.next PQ.body)) ?_
      refine D.take 7 (y_extract rfl rfl rfl) rfl rfl rfl rfl (by as_aux_lemma => kernel_rfl) (by as_aux_lemma => kernel_rfl) (by as_aux_lemma => kernel_rfl) (PQ.next (PQ.next PQ.body)) ?_
      refine D.ofJ 8 (by as_aux_lemma => kernel_rfl) rfl fun KhK8 hK8 => ?_
      refine J.alloc rfl rfl rfl rfl Tb.zz87 rfl fun g4 => ?_
      refine J.nil ?_
      refine hK8 _ _ _ (fun w hs => hs.mask [false, false, true, true, true]) ?_
      refine D.ofJ 9 (by as_aux_lemma => kernel_rfl) rfl fun KhK9 hK9 => ?_
      refine J.storeW 0 rfl rfl rfl rfl rfl rfl rfl Tb.sz87 (by first | (simp [length_wl]; done) | rfl) (by first | (simp [length_wl]; done) | rfl) (by first | exact u32s1 _ | exact one_vc _ | (simp; done) | (intro u hu; simp only [List.mem_cons, List.not_mem_nil, or_false] at hu; rcases hu with rfl | rfl <;> rfl)) ?_
      refine J.nil ?_
      refine hK9 _ _ _ (fun w hs => hs.mask [false, false, true, true, true]) ?_
      refine D.take 10 (y_assign rfl rfl) rfl rfl rfl rfl (by as_aux_lemma => kernel_rfl) (by as_aux_lemma => kernel_rfl) (by as_aux_lemma => kernel_rfl) (PQ.next (PQ.next PQ.body)) ?_
      refine D.done (by as_aux_lemma => kernel_rfl) ?_
      refine againK5 (g4, A2, k2) _ hk2 (okE_cons rfl (okE_cons rfl okE_nil)) (okE_cons rfl (okE_cons rfl (okE_cons rfl okE_nil)))
    · refine DS.ofJ rfl fun KhK10 hK10 => ?_
      refine J.alloc rfl rfl rfl rfl Tb.zz87 rfl fun g4 => ?_
      refine J.nil ?_
      refine hK10 _ _ _ (fun w hs => hs.mask [false, true, true, true]) ?_
      refine D.ofJ 4 (by as_aux_lemma => kernel_rfl) rfl fun KhK12 hK12 => ?_
      refine J.callR (Cin := []) rfl rfl rfl rfl Tb.cl64 rfl rfl (rgappend_fnE 5 [e, R] f 6 [R, ef] 0 p1 p2 p3 A1 2 k1 rfl (by omega) (fun w h => ckrow 2 rfl h) (by unfold in64; omega)) ?_
      rintro ⟨A2, k2⟩ hk2
      refine J.nil ?_
      refine hK12 _ _ _ (fun w hs => hs.mask [false, false, true, true, true]) ?_
      refine D.take 5 (y_move rfl rfl) rfl rfl rfl rfl (by as_aux_lemma => kernel_rfl) (by as_aux_lemma => kernel_rfl) (by as_aux_lemma => kernel_rfl) (PQ.next (PQ.next PQ.body)) ?_
      refine D.take 6 (y_extract rfl rfl rfl) rfl rfl rfl rfl (by as_aux_lemma => kernel_rfl) (by as_aux_lemma => kernel_rfl) (by as_aux_lemma => kernel_rfl) (PQ.next (PQ.next PQ.body)) ?_
      refine D.take 7 (y_extract rfl rfl rfl) rfl rfl rfl rfl (by as_aux_lemma => kernel_rfl) (by as_aux_lemma => kernel_rfl) (by as_aux_lemma => kernel_rfl) (PQ.next (PQ.next PQ.body)) ?_
      refine D.ofJ 9 (by as_aux_lemma => kernel_rfl) rfl fun KhK13 hK13 => ?_
      refine J.storeW 1 rfl rfl rfl rfl rfl rfl rfl Tb.sz87 (by first | (simp [length_wl]; done) | rfl) (by first | (simp [length_wl]; done) | rfl) (by first | exact u32s1 _ | exact one_vc _ | (simp; done) | (intro u hu; simp only [List.mem_cons, List.not_mem_nil, or_false] at hu; rcases hu with rfl | rfl <;> rfl)) ?_
      refine J.nil ?_
      refine hK13 _ _ _ (fun w hs => hs.mask [false, false, true, true, true]) ?_
      refine D.take 10 (y_assign rfl rfl) rfl rfl rfl rfl (by as_aux_lemma => kernel_rfl) (by as_aux_lemma => kernel_rfl) (by as_aux_lemma => kernel_rfl) (PQ.next (PQ.next PQ.body)) ?_
      refine D.done (by as_aux_lemma => kernel_rfl) ?_
      refine JQ.front 1 rfl ?_
      refine againK5 (g4, A2, k2) _ hk2 (okE_cons rfl (okE_cons rfl okE_nil)) (okE_cons rfl (okE_cons rfl (okE_cons rfl okE_nil)))
  · obtain ⟨g4, A2, k2⟩ := sK5
    dsimp only at hK5 ⊢
    obtain hk2 := hK5
    refine JQ.next hK4 ?_
    refine JC.seq fun K14 hK14 => ?_
    refine JC.region ?_
    refine J.yl (y_move rfl rfl) rfl rfl rfl ?_
    refine J.yl (y_cutN 1 5 rfl Tryd.underlying22 Tb.sz30 rfl rfl rfl (by omega) (by omega) (by omega)) rfl rfl rfl ?_
    refine J.callR (Cin := []) rfl rfl rfl rfl Tb.cl58 rfl rfl (part_fnE 1 [b, c, d, e] [b, cd, e] 0 t1 t2 (cutA A k 1 32) 4 (k - 1) rfl (by omega) (by omega) (fun w h => ((ckrow 4 rfl h : Sl w A (hcs [a, b, c, d, e, f])).htake 5).hdrop 1 k (by show 5 ≤ k; omega) (by show 1 ≤ 5; omega)) (by unfold in64; omega)) ?_
    rintro ⟨A3, k3⟩ hk3
    refine J.yl (y_move rfl rfl) rfl rfl rfl ?_
    refine J.yl (y_extract rfl rfl rfl) rfl rfl rfl ?_
    refine J.yl (y_extract rfl rfl rfl) rfl rfl rfl ?_
    refine J.yl (y_assign rfl rfl) rfl rfl rfl ?_
    refine J.yl (y_assign rfl rfl) rfl rfl rfl ?_
    refine J.nil ?_
    refine JQ.next hK14 ?_
    refine JC.seq fun K15 hK15 => ?_
    refine JC.region ?_
    refine J.yl (y_move rfl rfl) rfl rfl rfl ?_
    refine J.yl (y_cuttoN 1 rfl Tryd.underlying22 Tb.sz30 rfl rfl rfl (by omega)) rfl rfl rfl ?_
    refine J.callR (Cin := []) rfl rfl rfl rfl Tb.cl60 rfl rfl (rgof_fnE [a] 1 [a] 0 (of1 a).1 (of1 a).2.1 (of1 a).2.2 A 1 k rfl (fun w h => (ckrow 5 rfl h : Sl w A (hcs [a, b, c, d, e, f])).htake 1)) ?_
    rintro ⟨A4, k4⟩ hk4
    refine J.yl (y_move rfl rfl) rfl rfl rfl ?_
    refine J.yl (y_extract rfl rfl rfl) rfl rfl rfl ?_
    refine J.yl (y_extract rfl rfl rfl) rfl rfl rfl ?_
    refine J.alloc rfl rfl rfl rfl Tb.zz87 rfl fun g8 => ?_
    refine J.storeW 0 rfl rfl rfl rfl rfl rfl rfl Tb.sz87 (by first | (simp [length_wl]; done) | rfl) (by first | (simp [length_wl]; done) | rfl) (by first | exact u32s1 _ | exact one_vc _ | (simp; done) | (intro u hu; simp only [List.mem_cons, List.not_mem_nil, or_false] at hu; rcases hu with rfl | rfl <;> rfl)) ?_
    refine J.yl (y_assign rfl rfl) rfl rfl rfl ?_
    refine J.nil ?_
    refine JQ.next hK15 ?_
    refine JC.seq fun K16 hK16 => ?_
    refine JC.region ?_
    refine J.yl (y_lbW 0 rfl Tb.ag87 Tb.sz87 (by first | (simp [length_wl]; done) | rfl) rfl rfl) rfl rfl rfl ?_
    refine J.yl (y_move rfl rfl) rfl rfl rfl ?_
    refine J.callR (Cin := []) rfl rfl rfl rfl Tb.cl71 rfl rfl (merge_fnE 1 [a] 5 [b, cd, e] 5 [R, e] 0 u1 u2 u3 A4 A3 1 k4 3 k3 rfl rfl hk3 (by omega) (fun w h => ckrow 1 rfl h) (fun w h => ckrow 2 rfl h)) ?_
    rintro ⟨A5, k5⟩ hk5
    refine J.yl (y_move rfl rfl) rfl rfl rfl ?_
    refine J.yl (y_extract rfl rfl rfl) rfl rfl rfl ?_
    refine J.yl (y_extract rfl rfl rfl) rfl rfl rfl ?_
    refine J.alloc rfl rfl rfl rfl Tb.zz87 rfl fun g10 => ?_
    refine J.storeW 0 rfl rfl rfl rfl rfl rfl rfl Tb.sz87 (by first | (simp [length_wl]; done) | rfl) (by first | (simp [length_wl]; done) | rfl) (by first | exact u32s1 _ | exact one_vc _ | (simp; done) | (intro u hu; simp only [List.mem_cons, List.not_mem_nil, or_false] at hu; rcases hu with rfl | rfl <;> rfl)) ?_
    refine J.yl (y_assign rfl rfl) rfl rfl rfl ?_
    refine J.nil ?_
    refine JQ.next hK16 ?_
    refine JC.seq fun K17 hK17 => ?_
    refine JC.region ?_
    refine J.yl (y_move rfl rfl) rfl rfl rfl ?_
    refine J.yl (y_cuttoN 4 rfl Tryd.underlying22 Tb.sz30 rfl rfl rfl (by omega)) rfl rfl rfl ?_
    refine J.callv rfl rfl rfl rfl Tb.cl30 rfl ((root_spec [a, b, c, d] A 4 k rfl (by omega) (by omega) (fun w h => (ckrow 9 rfl h : Sl w A (hcs [a, b, c, d, e, f])).htake 4)).to (by rw [hr4])) ?_
    refine J.alloc rfl rfl rfl rfl Tb.zz30 rfl fun g12 => ?_
    refine J.storeW 0 rfl rfl rfl rfl rfl rfl rfl Tb.sz30 (hcl _) (hcl _) (hc1 _) ?_
    refine J.nil ?_
    refine JQ.next hK17 ?_
    refine JC.seq fun K18 hK18 => ?_
    refine JC.drawM [true, true, true, true, true, true, true, true, true, true, true] (by as_aux_lemma => kernel_rfl) ?_
    refine D.take 0 (y_move rfl rfl) rfl rfl rfl rfl (by as_aux_lemma => kernel_rfl) (by as_aux_lemma => kernel_rfl) (by as_aux_lemma => kernel_rfl) (PQ.next PQ.body) ?_
    refine D.take 1 ((y_eq rfl rfl rfl).to rfl) rfl rfl rfl rfl (by as_aux_lemma => kernel_rfl) (by as_aux_lemma => kernel_rfl) (by as_aux_lemma => kernel_rfl) (PQ.next PQ.body) ?_
    refine D.take 2 (y_move rfl rfl) rfl rfl rfl rfl (by as_aux_lemma => kernel_rfl) (by as_aux_lemma => kernel_rfl) (by as_aux_lemma => kernel_rfl) (PQ.next PQ.body) ?_
    refine D.takeG 3 (y_move rfl rfl) rfl rfl rfl rfl rfl rfl rfl (by as_aux_lemma => kernel_rfl) (by as_aux_lemma => kernel_rfl) (by as_aux_lemma => kernel_rfl) (PQ.next PQ.body) ?_
    refine D.takeG 4 ((y_eq rfl rfl rfl).to rfl) rfl rfl rfl rfl rfl rfl rfl (by as_aux_lemma => kernel_rfl) (by as_aux_lemma => kernel_rfl) (by as_aux_lemma => kernel_rfl) (PQ.next PQ.body) ?_
    refine D.take 5 (y_pick rfl rfl (fun _ => rfl) (fun h => by cases h)) rfl rfl rfl rfl (by as_aux_lemma => kernel_rfl) (by as_aux_lemma => kernel_rfl) (by as_aux_lemma => kernel_rfl) (PQ.next PQ.body) ?_
    refine D.take 6 (y_move rfl rfl) rfl rfl rfl rfl (by as_aux_lemma => kernel_rfl) (by as_aux_lemma => kernel_rfl) (by as_aux_lemma => kernel_rfl) (PQ.next PQ.body) ?_
    refine D.takeG 7 (y_move rfl rfl) rfl rfl rfl rfl rfl rfl rfl (by as_aux_lemma => kernel_rfl) (by as_aux_lemma => kernel_rfl) (by as_aux_lemma => kernel_rfl) (PQ.next PQ.body) ?_
    refine D.takeG 8 ((y_eq rfl rfl rfl).to rfl) rfl rfl rfl rfl rfl rfl rfl (by as_aux_lemma => kernel_rfl) (by as_aux_lemma => kernel_rfl) (by as_aux_lemma => kernel_rfl) (PQ.next PQ.body) ?_
    refine D.take 9 (y_pick rfl rfl (fun _ => rfl) (fun h => by cases h)) rfl rfl rfl rfl (by as_aux_lemma => kernel_rfl) (by as_aux_lemma => kernel_rfl) (by as_aux_lemma => kernel_rfl) (PQ.next PQ.body) ?_
    refine D.take 10 (y_move rfl rfl) rfl rfl rfl rfl (by as_aux_lemma => kernel_rfl) (by as_aux_lemma => kernel_rfl) (by as_aux_lemma => kernel_rfl) (PQ.next PQ.body) ?_
    refine D.takeG 11 (y_move rfl rfl) rfl rfl rfl rfl rfl rfl rfl (by as_aux_lemma => kernel_rfl) (by as_aux_lemma => kernel_rfl) (by as_aux_lemma => kernel_rfl) (PQ.next PQ.body) ?_
    refine D.takeG 12 ((y_eq rfl rfl rfl).to rfl) rfl rfl rfl rfl rfl rfl rfl (by as_aux_lemma => kernel_rfl) (by as_aux_lemma => kernel_rfl) (by as_aux_lemma => kernel_rfl) (PQ.next PQ.body) ?_
    refine D.take 13 (y_pick rfl rfl (fun _ => rfl) (fun h => by cases h)) rfl rfl rfl rfl (by as_aux_lemma => kernel_rfl) (by as_aux_lemma => kernel_rfl) (by as_aux_lemma => kernel_rfl) (PQ.next PQ.body) ?_
    refine D.take 14 (y_move rfl rfl) rfl rfl rfl rfl (by as_aux_lemma => kernel_rfl) (by as_aux_lemma => kernel_rfl) (by as_aux_lemma => kernel_rfl) (PQ.next PQ.body) ?_
    refine D.takeG 15 (y_move rfl rfl) rfl rfl rfl rfl rfl rfl rfl (by as_aux_lemma => kernel_rfl) (by as_aux_lemma => kernel_rfl) (by as_aux_lemma => kernel_rfl) (PQ.next PQ.body) ?_
    refine D.takeG 16 ((y_eq rfl rfl rfl).to rfl) rfl rfl rfl rfl rfl rfl rfl (by as_aux_lemma => kernel_rfl) (by as_aux_lemma => kernel_rfl) (by as_aux_lemma => kernel_rfl) (PQ.next PQ.body) ?_
    refine D.take 17 (y_pick rfl rfl (fun _ => rfl) (fun h => by cases h)) rfl rfl rfl rfl (by as_aux_lemma => kernel_rfl) (by as_aux_lemma => kernel_rfl) (by as_aux_lemma => kernel_rfl) (PQ.next PQ.body) ?_
    refine D.take 18 (y_move rfl rfl) rfl rfl rfl rfl (by as_aux_lemma => kernel_rfl) (by as_aux_lemma => kernel_rfl) (by as_aux_lemma => kernel_rfl) (PQ.next PQ.body) ?_
    refine D.takeG 19 (y_fb rfl Tb.fo87_0 rfl) rfl rfl rfl rfl rfl rfl rfl (by as_aux_lemma => kernel_rfl) (by as_aux_lemma => kernel_rfl) (by as_aux_lemma => kernel_rfl) (PQ.next PQ.body) ?_
    refine D.takeG 20 (y_lb 8 rfl Tb.ag3 rfl rfl rfl) rfl rfl rfl rfl rfl rfl rfl (by as_aux_lemma => kernel_rfl) (by as_aux_lemma => kernel_rfl) (by as_aux_lemma => kernel_rfl) (PQ.next PQ.body) ?_
    refine D.takeG 21 ((y_eq rfl rfl rfl).to rfl) rfl rfl rfl rfl rfl rfl rfl (by as_aux_lemma => kernel_rfl) (by as_aux_lemma => kernel_rfl) (by as_aux_lemma => kernel_rfl) (PQ.next PQ.body) ?_
    refine D.take 22 (y_pick rfl rfl (fun _ => rfl) (fun h => by cases h)) rfl rfl rfl rfl (by as_aux_lemma => kernel_rfl) (by as_aux_lemma => kernel_rfl) (by as_aux_lemma => kernel_rfl) (PQ.next PQ.body) ?_
    refine D.take 23 (y_move rfl rfl) rfl rfl rfl rfl (by as_aux_lemma => kernel_rfl) (by as_aux_lemma => kernel_rfl) (by as_aux_lemma => kernel_rfl) (PQ.next PQ.body) ?_
    refine D.takeG 24 (y_fb rfl Tb.fo87_1 rfl) rfl rfl rfl rfl rfl rfl rfl (by as_aux_lemma => kernel_rfl) (by as_aux_lemma => kernel_rfl) (by as_aux_lemma => kernel_rfl) (PQ.next PQ.body) ?_
    refine D.takeG 25 (y_lb 8 rfl Tb.ag22 rfl rfl rfl) rfl rfl rfl rfl rfl rfl rfl (by as_aux_lemma => kernel_rfl) (by as_aux_lemma => kernel_rfl) (by as_aux_lemma => kernel_rfl) (PQ.next PQ.body) ?_
    refine D.takeG 26 (y_lbW 0 rfl Tb.ag30 Tb.sz30 (hcl _) rfl rfl) rfl rfl rfl rfl rfl rfl rfl (by as_aux_lemma => kernel_rfl) (by as_aux_lemma => kernel_rfl) (by as_aux_lemma => kernel_rfl) (PQ.next PQ.body) ?_
    refine D.takeG 27 (y_move rfl rfl) rfl rfl rfl rfl rfl rfl rfl (by as_aux_lemma => kernel_rfl) (by as_aux_lemma => kernel_rfl) (by as_aux_lemma => kernel_rfl) (PQ.next PQ.body) ?_
    refine D.takeG 28 (y_hidx (n := 6) (l := [a, b, c, d, e, f]) 4 rfl Tryd.underlying22 Tb.sz30 rfl rfl rfl rfl (by omega) (fun w hs => strow hs 10 rfl)) rfl rfl rfl rfl rfl rfl rfl (by as_aux_lemma => kernel_rfl) (by as_aux_lemma => kernel_rfl) (by as_aux_lemma => kernel_rfl) (PQ.next PQ.body) ?_
    refine D.takeG 29 (y_hld (l := [a, b, c, d, e, f]) e rfl Tb.ag30 Tb.sz30 rfl rfl (fun w hs => strow hs 10 rfl)) rfl rfl rfl rfl rfl rfl rfl (by as_aux_lemma => kernel_rfl) (by as_aux_lemma => kernel_rfl) (by as_aux_lemma => kernel_rfl) (PQ.next PQ.body) ?_
    refine D.ofJ 30 (by as_aux_lemma => kernel_rfl) rfl fun KhK20 hK20 => ?_
    refine J.gon rfl rfl rfl rfl ?_
    refine J.bsN (cs := hcs ([R, e])) ([R, e]) hv hc hv_cells hcl rfl rfl rfl rfl rfl rfl Tryd.underlying22 Tb.zz30 Tb.sz30 rfl rfl fun g79 => ?_
    refine J.nil ?_
    refine hK20 _ _ _ (fun w hs => hs.mask [false, true, true, true, true, true, true, true, true, true, true, true]) ?_
    refine D.ofJ 31 (by as_aux_lemma => kernel_rfl) rfl fun KhK22 hK22 => ?_
    refine J.gon rfl rfl rfl rfl ?_
    refine J.callv rfl rfl rfl rfl Tb.cl26 rfl ((same_fn [R, e] [R, e] A1 _ 2 2 k1 _ rfl rfl (by omega) (fun w h => ckrow 10 rfl h) (fun w h => ckrow 0 rfl h)).to (by rw [decide_eq_true rfl])) ?_
    refine J.nil ?_
    refine hK22 _ _ _ (fun w hs => hs.mask [false, true, true, true, true, true, true, true, true, true, true, true]) ?_
    refine D.take 32 (y_pick rfl rfl (fun _ => rfl) (fun h => by cases h)) rfl rfl rfl rfl (by as_aux_lemma => kernel_rfl) (by as_aux_lemma => kernel_rfl) (by as_aux_lemma => kernel_rfl) (PQ.next PQ.body) ?_
    refine D.take 33 (y_move rfl rfl) rfl rfl rfl rfl (by as_aux_lemma => kernel_rfl) (by as_aux_lemma => kernel_rfl) (by as_aux_lemma => kernel_rfl) (PQ.next PQ.body) ?_
    refine D.takeG 34 (y_fb rfl Tb.fo87_1 rfl) rfl rfl rfl rfl rfl rfl rfl (by as_aux_lemma => kernel_rfl) (by as_aux_lemma => kernel_rfl) (by as_aux_lemma => kernel_rfl) (PQ.next PQ.body) ?_
    refine D.takeG 35 (y_lb 6 rfl Tb.ag22 rfl rfl rfl) rfl rfl rfl rfl rfl rfl rfl (by as_aux_lemma => kernel_rfl) (by as_aux_lemma => kernel_rfl) (by as_aux_lemma => kernel_rfl) (PQ.next PQ.body) ?_
    refine D.takeG 36 (y_lbW 0 rfl Tb.ag30 Tb.sz30 (hcl _) rfl rfl) rfl rfl rfl rfl rfl rfl rfl (by as_aux_lemma => kernel_rfl) (by as_aux_lemma => kernel_rfl) (by as_aux_lemma => kernel_rfl) (PQ.next PQ.body) ?_
    refine D.takeG 37 (y_move rfl rfl) rfl rfl rfl rfl rfl rfl rfl (by as_aux_lemma => kernel_rfl) (by as_aux_lemma => kernel_rfl) (by as_aux_lemma => kernel_rfl) (PQ.next PQ.body) ?_
    refine D.takeG 40 (y_move rfl rfl) rfl rfl rfl rfl rfl rfl rfl (by as_aux_lemma => kernel_rfl) (by as_aux_lemma => kernel_rfl) (by as_aux_lemma => kernel_rfl) (PQ.next PQ.body) ?_
    refine D.takeG 38 (y_hidx (n := 6) (l := [a, b, c, d, e, f]) 4 rfl Tryd.underlying22 Tb.sz30 rfl rfl rfl rfl (by omega) (fun w hs => strow hs 10 rfl)) rfl rfl rfl rfl rfl rfl rfl (by as_aux_lemma => kernel_rfl) (by as_aux_lemma => kernel_rfl) (by as_aux_lemma => kernel_rfl) (PQ.next PQ.body) ?_
    refine D.takeG 39 (y_hld (l := [a, b, c, d, e, f]) e rfl Tb.ag30 Tb.sz30 rfl rfl (fun w hs => strow hs 10 rfl)) rfl rfl rfl rfl rfl rfl rfl (by as_aux_lemma => kernel_rfl) (by as_aux_lemma => kernel_rfl) (by as_aux_lemma => kernel_rfl) (PQ.next PQ.body) ?_
    refine D.takeG 41 (y_hidx (n := 6) (l := [a, b, c, d, e, f]) 5 rfl Tryd.underlying22 Tb.sz30 rfl rfl rfl rfl (by omega) (fun w hs => strow hs 10 rfl)) rfl rfl rfl rfl rfl rfl rfl (by as_aux_lemma => kernel_rfl) (by as_aux_lemma => kernel_rfl) (by as_aux_lemma => kernel_rfl) (PQ.next PQ.body) ?_
    refine D.takeG 42 (y_hld (l := [a, b, c, d, e, f]) f rfl Tb.ag30 Tb.sz30 rfl rfl (fun w hs => strow hs 10 rfl)) rfl rfl rfl rfl rfl rfl rfl (by as_aux_lemma => kernel_rfl) (by as_aux_lemma => kernel_rfl) (by as_aux_lemma => kernel_rfl) (PQ.next PQ.body) ?_
    refine D.ofJ 43 (by as_aux_lemma => kernel_rfl) rfl fun KhK24 hK24 => ?_
    refine J.gon rfl rfl rfl rfl ?_
    refine J.callv rfl rfl rfl rfl Tb.cl105 rfl ((node_spec e f).to (by rw [hef])) ?_
    refine J.nil ?_
    refine hK24 _ _ _ (fun w hs => hs.mask [false, true, true, true, true, true, true, true, true, true, true, true]) ?_
    refine D.ofJ 44 (by as_aux_lemma => kernel_rfl) rfl fun KhK26 hK26 => ?_
    refine J.gon rfl rfl rfl rfl ?_
    refine J.bsN (cs := hcs ([R, ef])) ([R, ef]) hv hc hv_cells hcl rfl rfl rfl rfl rfl rfl Tryd.underlying22 Tb.zz30 Tb.sz30 rfl rfl fun g93 => ?_
    refine J.nil ?_
    refine hK26 _ _ _ (fun w hs => hs.mask [false, false, true, true, true, true, true, true, true, true, true, true, true]) ?_
    refine D.ofJ 45 (by as_aux_lemma => kernel_rfl) rfl fun KhK28 hK28 => ?_
    refine J.gon rfl rfl rfl rfl ?_
    refine J.callv rfl rfl rfl rfl Tb.cl26 rfl ((same_fn [R, ef] [R, ef] A2 _ 2 2 k2 _ rfl rfl (by omega) (fun w h => ckrow 9 rfl h) (fun w h => ckrow 0 rfl h)).to (by rw [decide_eq_true rfl])) ?_
    refine J.nil ?_
    refine hK28 _ _ _ (fun w hs => hs.mask [false, false, true, true, true, true, true, true, true, true, true, true, true]) ?_
    refine D.take 46 (y_pick rfl rfl (fun _ => rfl) (fun h => by cases h)) rfl rfl rfl rfl (by as_aux_lemma => kernel_rfl) (by as_aux_lemma => kernel_rfl) (by as_aux_lemma => kernel_rfl) (PQ.next PQ.body) ?_
    refine D.take 47 (y_move rfl rfl) rfl rfl rfl rfl (by as_aux_lemma => kernel_rfl) (by as_aux_lemma => kernel_rfl) (by as_aux_lemma => kernel_rfl) (PQ.next PQ.body) ?_
    refine D.takeG 48 (y_move rfl rfl) rfl rfl rfl rfl rfl rfl rfl (by as_aux_lemma => kernel_rfl) (by as_aux_lemma => kernel_rfl) (by as_aux_lemma => kernel_rfl) (PQ.next PQ.body) ?_
    refine D.takeG 49 (y_move rfl rfl) rfl rfl rfl rfl rfl rfl rfl (by as_aux_lemma => kernel_rfl) (by as_aux_lemma => kernel_rfl) (by as_aux_lemma => kernel_rfl) (PQ.next PQ.body) ?_
    refine D.takeG 52 (y_move rfl rfl) rfl rfl rfl rfl rfl rfl rfl (by as_aux_lemma => kernel_rfl) (by as_aux_lemma => kernel_rfl) (by as_aux_lemma => kernel_rfl) (PQ.next PQ.body) ?_
    refine D.takeG 55 (y_move rfl rfl) rfl rfl rfl rfl rfl rfl rfl (by as_aux_lemma => kernel_rfl) (by as_aux_lemma => kernel_rfl) (by as_aux_lemma => kernel_rfl) (PQ.next PQ.body) ?_
    refine D.takeG 59 (y_move rfl rfl) rfl rfl rfl rfl rfl rfl rfl (by as_aux_lemma => kernel_rfl) (by as_aux_lemma => kernel_rfl) (by as_aux_lemma => kernel_rfl) (PQ.next PQ.body) ?_
    refine D.takeG 50 (y_hidx (n := 6) (l := [a, b, c, d, e, f]) 1 rfl Tryd.underlying22 Tb.sz30 rfl rfl rfl rfl (by omega) (fun w hs => strow hs 10 rfl)) rfl rfl rfl rfl rfl rfl rfl (by as_aux_lemma => kernel_rfl) (by as_aux_lemma => kernel_rfl) (by as_aux_lemma => kernel_rfl) (PQ.next PQ.body) ?_
    refine D.takeG 51 (y_hld (l := [a, b, c, d, e, f]) b rfl Tb.ag30 Tb.sz30 rfl rfl (fun w hs => strow hs 10 rfl)) rfl rfl rfl rfl rfl rfl rfl (by as_aux_lemma => kernel_rfl) (by as_aux_lemma => kernel_rfl) (by as_aux_lemma => kernel_rfl) (PQ.next PQ.body) ?_
    refine D.takeG 53 (y_hidx (n := 6) (l := [a, b, c, d, e, f]) 2 rfl Tryd.underlying22 Tb.sz30 rfl rfl rfl rfl (by omega) (fun w hs => strow hs 10 rfl)) rfl rfl rfl rfl rfl rfl rfl (by as_aux_lemma => kernel_rfl) (by as_aux_lemma => kernel_rfl) (by as_aux_lemma => kernel_rfl) (PQ.next PQ.body) ?_
    refine D.takeG 54 (y_hld (l := [a, b, c, d, e, f]) c rfl Tb.ag30 Tb.sz30 rfl rfl (fun w hs => strow hs 10 rfl)) rfl rfl rfl rfl rfl rfl rfl (by as_aux_lemma => kernel_rfl) (by as_aux_lemma => kernel_rfl) (by as_aux_lemma => kernel_rfl) (PQ.next PQ.body) ?_
    refine D.takeG 56 (y_hidx (n := 6) (l := [a, b, c, d, e, f]) 3 rfl Tryd.underlying22 Tb.sz30 rfl rfl rfl rfl (by omega) (fun w hs => strow hs 10 rfl)) rfl rfl rfl rfl rfl rfl rfl (by as_aux_lemma => kernel_rfl) (by as_aux_lemma => kernel_rfl) (by as_aux_lemma => kernel_rfl) (PQ.next PQ.body) ?_
    refine D.takeG 57 (y_hld (l := [a, b, c, d, e, f]) d rfl Tb.ag30 Tb.sz30 rfl rfl (fun w hs => strow hs 10 rfl)) rfl rfl rfl rfl rfl rfl rfl (by as_aux_lemma => kernel_rfl) (by as_aux_lemma => kernel_rfl) (by as_aux_lemma => kernel_rfl) (PQ.next PQ.body) ?_
    refine D.takeG 60 (y_hidx (n := 6) (l := [a, b, c, d, e, f]) 4 rfl Tryd.underlying22 Tb.sz30 rfl rfl rfl rfl (by omega) (fun w hs => strow hs 10 rfl)) rfl rfl rfl rfl rfl rfl rfl (by as_aux_lemma => kernel_rfl) (by as_aux_lemma => kernel_rfl) (by as_aux_lemma => kernel_rfl) (PQ.next PQ.body) ?_
    refine D.takeG 61 (y_hld (l := [a, b, c, d, e, f]) e rfl Tb.ag30 Tb.sz30 rfl rfl (fun w hs => strow hs 10 rfl)) rfl rfl rfl rfl rfl rfl rfl (by as_aux_lemma => kernel_rfl) (by as_aux_lemma => kernel_rfl) (by as_aux_lemma => kernel_rfl) (PQ.next PQ.body) ?_
    refine D.ofJ 58 (by as_aux_lemma => kernel_rfl) rfl fun KhK30 hK30 => ?_
    refine J.gon rfl rfl rfl rfl ?_
    refine J.callv rfl rfl rfl rfl Tb.cl105 rfl ((node_spec c d).to (by rw [hcd])) ?_
    refine J.nil ?_
    refine hK30 _ _ _ (fun w hs => hs.mask [false, false, true, true, true, true, true, true, true, true, true, true, true]) ?_
    refine D.ofJ 62 (by as_aux_lemma => kernel_rfl) rfl fun KhK32 hK32 => ?_
    refine J.gon rfl rfl rfl rfl ?_
    refine J.bsN (cs := hcs ([b, cd, e])) ([b, cd, e]) hv hc hv_cells hcl rfl rfl rfl rfl rfl rfl Tryd.underlying22 Tb.zz30 Tb.sz30 rfl rfl fun g111 => ?_
    refine J.nil ?_
    refine hK32 _ _ _ (fun w hs => hs.mask [false, false, false, true, true, true, true, true, true, true, true, true, true, true]) ?_
    refine D.ofJ 63 (by as_aux_lemma => kernel_rfl) rfl fun KhK34 hK34 => ?_
    refine J.gon rfl rfl rfl rfl ?_
    refine J.callv rfl rfl rfl rfl Tb.cl26 rfl ((same_fn [b, cd, e] [b, cd, e] A3 _ 3 3 k3 _ rfl rfl (by omega) (fun w h => ckrow 8 rfl h) (fun w h => ckrow 0 rfl h)).to (by rw [decide_eq_true rfl])) ?_
    refine J.nil ?_
    refine hK34 _ _ _ (fun w hs => hs.mask [false, false, false, true, true, true, true, true, true, true, true, true, true, true]) ?_
    refine D.take 64 (y_pick rfl rfl (fun _ => rfl) (fun h => by cases h)) rfl rfl rfl rfl (by as_aux_lemma => kernel_rfl) (by as_aux_lemma => kernel_rfl) (by as_aux_lemma => kernel_rfl) (PQ.next PQ.body) ?_
    refine D.take 65 (y_move rfl rfl) rfl rfl rfl rfl (by as_aux_lemma => kernel_rfl) (by as_aux_lemma => kernel_rfl) (by as_aux_lemma => kernel_rfl) (PQ.next PQ.body) ?_
    refine D.takeG 66 (y_lbW 8 rfl Tb.ag87 Tb.sz87 (by first | (simp [length_wl]; done) | rfl) rfl rfl) rfl rfl rfl rfl rfl rfl rfl (by as_aux_lemma => kernel_rfl) (by as_aux_lemma => kernel_rfl) (by as_aux_lemma => kernel_rfl) (PQ.next PQ.body) ?_
    refine D.takeG 67 (y_lbW 1 rfl Tb.ag87 Tb.sz87 (by first | (simp [length_wl]; done) | rfl) rfl rfl) rfl rfl rfl rfl rfl rfl rfl (by as_aux_lemma => kernel_rfl) (by as_aux_lemma => kernel_rfl) (by as_aux_lemma => kernel_rfl) (PQ.next PQ.body) ?_
    refine D.ofJ 68 (by as_aux_lemma => kernel_rfl) rfl fun KhK36 hK36 => ?_
    refine J.gon rfl rfl rfl rfl ?_
    refine J.callv rfl rfl rfl rfl Tb.cl63 rfl ((rgsame_fn 5 5 [R, e] [R, e] A1 A5 2 2 k1 k5 rfl rfl (by omega) (fun w h => ckrow 12 rfl h) (fun w h => ckrow 5 rfl h)).to (by rw [sam, decide_eq_true ⟨rfl, rfl⟩])) ?_
    refine J.nil ?_
    refine hK36 _ _ _ (fun w hs => hs.mask [false, false, false, true, true, true, true, true, true, true, true, true, true, true]) ?_
    refine D.take 69 (y_pick rfl rfl (fun _ => rfl) (fun h => by cases h)) rfl rfl rfl rfl (by as_aux_lemma => kernel_rfl) (by as_aux_lemma => kernel_rfl) (by as_aux_lemma => kernel_rfl) (PQ.next PQ.body) ?_
    refine D.take 70 (y_move rfl rfl) rfl rfl rfl rfl (by as_aux_lemma => kernel_rfl) (by as_aux_lemma => kernel_rfl) (by as_aux_lemma => kernel_rfl) (PQ.next PQ.body) ?_
    refine D.takeG 71 (y_lbW 0 rfl Tb.ag30 Tb.sz30 (hcl _) rfl rfl) rfl rfl rfl rfl rfl rfl rfl (by as_aux_lemma => kernel_rfl) (by as_aux_lemma => kernel_rfl) (by as_aux_lemma => kernel_rfl) (PQ.next PQ.body) ?_
    refine D.takeG 72 (y_buildA (cs := hc H.zero) rfl Tryd.underlying30 Tb.zz30 Tb.sz5 rfl rfl) rfl rfl rfl rfl rfl rfl rfl (by as_aux_lemma => kernel_rfl) (by as_aux_lemma => kernel_rfl) (by as_aux_lemma => kernel_rfl) (PQ.next PQ.body) ?_
    refine D.takeG 73 (y_hne rfl Tryd.underlying30 Tryd.underlying5 Tb.ag5 Tb.sz5 Tb.eg30 rfl rfl) rfl rfl rfl rfl rfl rfl rfl (by as_aux_lemma => kernel_rfl) (by as_aux_lemma => kernel_rfl) (by as_aux_lemma => kernel_rfl) (PQ.next PQ.body) ?_
    refine D.take 74 (y_pick rfl rfl (fun _ => rfl) (fun h => by cases h)) rfl rfl rfl rfl (by as_aux_lemma => kernel_rfl) (by as_aux_lemma => kernel_rfl) (by as_aux_lemma => kernel_rfl) (PQ.next PQ.body) ?_
    refine D.take 75 (y_assign rfl rfl) rfl rfl rfl rfl (by as_aux_lemma => kernel_rfl) (by as_aux_lemma => kernel_rfl) (by as_aux_lemma => kernel_rfl) (PQ.next PQ.body) ?_
    refine D.done (by as_aux_lemma => kernel_rfl) ?_
    refine JQ.next hK18 ?_
    refine JC.ret ?_
    exact ret1 rfl (r_tmp rfl) fun w hs => by rw [decide_eq_false hnz]; exact Post.pure hs
end Go.Proofs.YtjkfeonbioccmaaDoor
