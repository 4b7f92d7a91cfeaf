/- Speculum proofs: contracts: proofs that tiles tell. -/
import Derived.Test.YtjkfeonbioccmaaDoorTd
namespace Go.Proofs.YtjkfeonbioccmaaDoor
open Go Go.Sx Go.RowKit
set_option linter.unusedVariables false
set_option linter.unusedSimpArgs false
set_option maxRecDepth 100000
set_option maxHeartbeats 4000000
variable {Gl F : World → Prop}
def tpf (l : List H) (q z : Int) : List H := if z < 0 ∨ (l.length : Int) < z ∨ q ≤ 0 ∨ z < q then [] else sub (l.take z.toNat) q.toNat true
def tpfE (l : List H) (q z : Int) : Int := if z < 0 ∨ (l.length : Int) < z ∨ q < 0 ∨ z < q then 82 else 0
theorem tProof_fn (T m n : Nat) (es : Array MapEntry) (clock : Nat) (l : List H) (hM : Mp es (tile l)) (hn : l.length = n) (hN : n ≤ 4096) (i z : Int) (hF : ∀ w, F w → Tt T m n es clock w) :
    FnSpec Tryd.prog Gs 39 [.pointer (some ⟨T, 0, none⟩), .int .i64 i, .int .i64 z] [] F (ι := Option Addr × Nat) (fun q => (tpf l i z).length ≤ q.2) (fun q => .tuple #[.slice q.1 (tpf l i z).length q.2, .int .i64 (tpfE l i z)]) (OwnL (tpf l i z)) (fun _ _ => True) := by
  have hbad : z < 0 ∨ (n : Int) < z ∨ i < 0 ∨ z < i → tpf l i z = [] ∧ tpfE l i z = 82 := fun h => ⟨if_pos (by rw [hn]; omega), if_pos (by rw [hn]; exact h)⟩
  refine FnSpec.intro Tryd.func39 rfl Tryd.ntmps39 rfl fun X M w => ?_
  refine JC.seq fun K1 hK1 => ?_
  refine JC.region ?_
  refine J.yl (y_assign rfl rfl) rfl rfl rfl ?_
  refine J.yl (y_assign rfl rfl) rfl rfl rfl ?_
  refine J.nil ?_
  refine JQ.next hK1 ?_
  refine JC.seq fun K2 hK2 => ?_
  refine JC.region ?_
  refine J.yl (y_move rfl rfl) rfl rfl rfl ?_
  refine J.yl (y_move rfl rfl) rfl rfl rfl ?_
  refine J.callv rfl rfl rfl rfl Tb.cl116 rfl (within_fn T m n es clock z (fun w h => hF w h.1)) ?_
  refine J.yl (y_assign rfl rfl) rfl rfl rfl ?_
  refine J.nil ?_
  refine JQ.next hK2 ?_
  refine JC.seq fun K3 hK3 => ?_
  refine JC.block ?_
  refine JC.seq fun K4 hK4 => ?_
  refine JC.region ?_
  refine J.yl (y_move rfl rfl) rfl rfl rfl ?_
  refine J.yl (y_ne rfl rfl rfl) rfl rfl rfl ?_
  refine J.yl (y_assign rfl rfl) rfl rfl rfl ?_
  refine J.nil ?_
  refine JQ.next hK4 ?_
  refine JC.condn rfl (fun h1 => ?_) (fun h1 => ?_)
  · have hz : z < 0 ∨ (n : Int) < z := by
      by_cases h : z < 0 ∨ (n : Int) < z
      · exact h
      · exact absurd (if_neg h) h1
    have hE : wthE n z = 82 := if_pos hz
    obtain ⟨hb1, hb2⟩ := hbad (by omega)
    refine JC.seq fun K5 hK5 => ?_
    refine JC.region ?_
    refine J.yl (y_move rfl rfl) rfl rfl rfl ?_
    refine J.yl (y_assign rfl rfl) rfl rfl rfl ?_
    refine J.yl (y_assign rfl rfl) rfl rfl rfl ?_
    refine J.nil ?_
    refine JQ.next hK5 ?_
    refine JC.ret ?_
    refine JQ.block_ret (JQ.then_ret ?_)
    refine JQ.st ?_ (fun w hs => hs.nilrow 30 32)
    exact ret2 rfl (r_tmp rfl) (r_tmp rfl) fun w hs => by rw [hb1, hb2, hE]; exact Post.of_st hs (none, 0) (Nat.le_refl _) (List.Sublist.refl _) fun _ _ => trivial
  · have hok : ¬ (z < 0 ∨ (n : Int) < z) := fun h => by
      have : wthE n z = 82 := if_pos h
      rw [this] at h1; exact absurd h1 (by decide)
    refine JC.seq fun K6 hK6 => ?_
    refine JC.region ?_
    refine J.yl (y_move rfl rfl) rfl rfl rfl ?_
    refine J.ylp (y_lt rfl rfl rfl) rfl rfl rfl (fun h2 => ?_) (fun h2 => ?_)
    · obtain ⟨hb1, hb2⟩ := hbad (by omega)
      refine J.yl (y_move rfl rfl) rfl rfl rfl ?_
      refine J.gno (b := true) rfl rfl rfl rfl rfl rfl ?_
      refine J.gno (b := true) rfl rfl rfl rfl rfl rfl ?_
      refine J.gno (b := true) rfl rfl rfl rfl rfl rfl ?_
      refine J.yl (y_pick rfl rfl (fun _ => rfl) (fun h => by cases h)) rfl rfl rfl ?_
      refine J.yl (y_assign rfl rfl) rfl rfl rfl ?_
      refine J.nil ?_
      refine JQ.next hK6 ?_
      refine JC.yes rfl ?_
      refine JC.seq fun K7 hK7 => ?_
      refine JC.region ?_
      refine J.yl (y_assign rfl rfl) rfl rfl rfl ?_
      refine J.yl (y_assign rfl rfl) rfl rfl rfl ?_
      refine J.nil ?_
      refine JQ.next hK7 ?_
      refine JC.ret ?_
      refine JQ.block_ret (JQ.then_ret ?_)
      refine JQ.st ?_ (fun w hs => hs.nilrow 30 32)
      exact ret2 rfl (r_tmp rfl) (r_tmp rfl) fun w hs => by rw [hb1, hb2]; exact Post.of_st hs (none, 0) (Nat.le_refl _) (List.Sublist.refl _) fun _ _ => trivial
    · refine J.yl (y_move rfl rfl) rfl rfl rfl ?_
      refine J.gyes (y_move rfl rfl) rfl rfl rfl rfl rfl rfl ?_
      refine J.gyes (y_move rfl rfl) rfl rfl rfl rfl rfl rfl ?_
      refine J.gyes (y_gt rfl rfl rfl) rfl rfl rfl rfl rfl rfl ?_
      refine J.yl (y_pick rfl rfl (fun h => by cases h) (fun _ => rfl)) rfl rfl rfl ?_
      refine J.yl (y_assign rfl rfl) rfl rfl rfl ?_
      refine J.nil ?_
      refine JQ.next hK6 ?_
      refine JC.condp rfl (fun h3 => ?_) (fun h3 => ?_)
      · obtain ⟨hb1, hb2⟩ := hbad (by omega)
        refine JC.seq fun K8 hK8 => ?_
        refine JC.region ?_
        refine J.yl (y_assign rfl rfl) rfl rfl rfl ?_
        refine J.yl (y_assign rfl rfl) rfl rfl rfl ?_
        refine J.nil ?_
        refine JQ.next hK8 ?_
        refine JC.ret ?_
        refine JQ.block_ret (JQ.then_ret ?_)
        refine JQ.st ?_ (fun w hs => hs.nilrow 30 32)
        exact ret2 rfl (r_tmp rfl) (r_tmp rfl) fun w hs => by rw [hb1, hb2]; exact Post.of_st hs (none, 0) (Nat.le_refl _) (List.Sublist.refl _) fun _ _ => trivial
      · obtain ⟨i, rfl⟩ : ∃ q : Nat, i = q := ⟨i.toNat, by omega⟩
        obtain ⟨z, rfl⟩ : ∃ q : Nat, z = q := ⟨z.toNat, by omega⟩
        have hE : tpfE l i z = 0 := by rw [tpfE, if_neg (by omega)]
        refine JC.seq fun K9 hK9 => ?_
        refine JC.region ?_
        refine J.yl (y_move rfl rfl) rfl rfl rfl ?_
        refine J.yl (y_eq rfl rfl rfl) rfl rfl rfl ?_
        refine J.yl (y_assign rfl rfl) rfl rfl rfl ?_
        refine J.nil ?_
        refine JQ.next hK9 ?_
        refine JC.condp rfl (fun h0 => ?_) (fun h0 => ?_)
        · have hp : tpf l i z = [] := if_pos (by omega)
          refine JC.seq fun K10 hK10 => ?_
          refine JC.region ?_
          refine J.yl (y_assign rfl rfl) rfl rfl rfl ?_
          refine J.yl (y_assign rfl rfl) rfl rfl rfl ?_
          refine J.nil ?_
          refine JQ.next hK10 ?_
          refine JC.ret ?_
          refine JQ.block_ret (JQ.then_ret ?_)
          refine JQ.st ?_ (fun w hs => hs.nilrow 30 32)
          exact ret2 rfl (r_tmp rfl) (r_tmp rfl) fun w hs => by rw [hp, hE]; exact Post.of_st hs (none, 0) (Nat.le_refl _) (List.Sublist.refl _) fun _ _ => trivial
        · have hp : tpf l i z = sub (seg l 0 z) i true := by
            rw [tpf, if_neg (by omega), Int.toNat_natCast, Int.toNat_natCast, seg, List.drop_zero]
          refine JC.skip ?_
          refine JQ.block_normal (JQ.next hK3 ?_)
          refine JC.seq fun K11 hK11 => ?_
          refine JC.region ?_
          refine J.yl (y_assign rfl rfl) rfl rfl rfl ?_
          refine J.nil ?_
          refine JQ.next hK11 ?_
          refine JC.seq fun K12 hK12 => ?_
          refine JC.region ?_
          refine J.yl (y_move rfl rfl) rfl rfl rfl ?_
          refine J.yl (y_assign rfl rfl) rfl rfl rfl ?_
          refine J.yl (y_assign rfl rfl) rfl rfl rfl ?_
          refine J.nil ?_
          refine JQ.next hK12 ?_
          refine JC.seq fun K13 hK13 => ?_
          refine JC.block ?_
          refine JC.st ?_ (fun w hs => hs.nilrow 30 32)
          refine JC.loopE (σ := Nat × Nat × List H × Option Addr × Nat) (M := fun q => [(9, .slice q.2.2.2.1 q.2.2.1.length q.2.2.2.2), (10, .int .i64 (q.1 : Int)), (11, .int .i64 (q.2.1 : Int))]) (kp := [(0, _), (1, _)]) (hkp := (okE_cons rfl (okE_cons rfl okE_nil))) (Dc := fun q => [.row (.slice q.2.2.2.1 q.2.2.1.length q.2.2.2.2) 30 32 q.2.2.1.length (hcs q.2.2.1)]) (H := fun _ => F) (Ψ := fun q => q.1 < i ∧ i ≤ q.2.1 ∧ q.2.1 ≤ z ∧ sub (seg l 0 z) i true = sub (seg l q.1 q.2.1) (i - q.1) (decide (q.1 = 0)) ++ q.2.2.1 ∧ q.2.2.1.length ≤ q.2.2.2.2 ∧ q.2.2.1.length + (q.2.1 - q.1) ≤ z ∧ ∃ c, q.1 % 2 ^ c = 0 ∧ q.2.1 - q.1 ≤ 2 ^ c) (μ := fun q => q.2.1 - q.1) (0, z, [], none, 0) ⟨by dsimp only; omega, by dsimp only; omega, by dsimp only; omega, by simp, Nat.le_refl _, by simp, 12, rfl, by have : (2 : Nat) ^ 12 = 4096 := rfl; dsimp only; omega⟩ (okE_cons rfl (okE_cons rfl (okE_cons rfl okE_nil))) (fun w h => h) (fun sK14 hK14 K14 againK14 => ?_)
          obtain ⟨a, b, out, A, k⟩ := sK14
          dsimp only at hK14 againK14 ⊢
          obtain ⟨ha, hb, hbz, hpa, hko, hlo, c, hcd, hcb⟩ := hK14
          refine JC.seq fun K15 hK15 => ?_
          refine JC.seq fun K16 hK16 => ?_
          refine JC.region ?_
          refine J.yl (y_move rfl rfl) rfl rfl rfl ?_
          refine J.yl (y_move rfl rfl) rfl rfl rfl ?_
          refine J.yl (y_lt rfl rfl rfl) rfl rfl rfl ?_
          refine J.nil ?_
          refine JQ.next hK16 ?_
          refine JC.condp rfl (fun h4 => ?_) (fun h4 => ?_)
          · obtain ⟨j, hj, hjc, hd1, hd2, hj0, hj1, hj2⟩ := split_at hcd (show 2 ≤ b - a by omega) hcb
            refine JC.skip ?_
            refine JQ.next hK15 ?_
            refine JC.block ?_
            refine JC.seq fun K17 hK17 => ?_
            refine JC.region ?_
            refine J.yl (y_move rfl rfl) rfl rfl rfl ?_
            refine J.yl (y_move rfl rfl) rfl rfl rfl ?_
            refine J.yl (y_move rfl rfl) rfl rfl rfl ?_
            refine J.yl (y_sub64 rfl rfl rfl (by omega)) rfl rfl rfl ?_
            refine J.callv rfl rfl rfl rfl Tb.cl107 rfl ((split_fn (b - a) _ (by omega) (by omega)).to (by rw [hj])) ?_
            refine J.yl (y_add64 rfl rfl rfl (by omega)) rfl rfl rfl ?_
            refine J.yl (y_assign rfl rfl) rfl rfl rfl ?_
            refine J.nil ?_
            refine JQ.next hK17 ?_
            refine JC.seq fun K18 hK18 => ?_
            refine JC.region ?_
            refine J.yl (y_move rfl rfl) rfl rfl rfl ?_
            refine J.yl (y_move rfl rfl) rfl rfl rfl ?_
            refine J.yl (y_move rfl rfl) rfl rfl rfl ?_
            refine J.callv rfl rfl rfl rfl Tb.cl117 rfl (troot_fn T m n es clock l hM hn hN j (a + 2 ^ j) b _ _ hd2 (by omega) (by omega) (by omega) (by omega) rfl _ (fun w h => hF w h.1)) ?_
            refine J.alloc rfl rfl rfl rfl Tb.zz30 rfl fun g13 => ?_
            refine J.storeW 0 rfl rfl rfl rfl rfl rfl rfl Tb.sz30 (hcl _) (hcl _) (hc1 _) ?_
            refine J.nil ?_
            refine JQ.next hK18 ?_
            refine JC.seq fun K19 hK19 => ?_
            refine JC.seq fun K20 hK20 => ?_
            refine JC.region ?_
            refine J.yl (y_move rfl rfl) rfl rfl rfl ?_
            refine J.yl (y_move rfl rfl) rfl rfl rfl ?_
            refine J.yl (y_le rfl rfl rfl) rfl rfl rfl ?_
            refine J.nil ?_
            refine JQ.next hK20 ?_
            refine JC.condp rfl (fun h5 => ?_) (fun h5 => ?_)
            · have hst := sub_seg_l l a b i (decide (a = 0)) (by omega) (by omega) (by omega) (by omega)
              rw [hj] at hst
              refine JC.region ?_
              refine J.yl (y_move rfl rfl) rfl rfl rfl ?_
              refine J.yl (y_assign rfl rfl) rfl rfl rfl ?_
              refine J.nil ?_
              refine JQ.next hK19 ?_
              refine JC.region ?_
              refine J.yl (y_lbW 0 rfl Tb.ag30 Tb.sz30 (hcl _) rfl rfl) rfl rfl rfl ?_
              refine J.bsN (cs := hcs ([root (seg l (a + 2 ^ j) b)])) ([root (seg l (a + 2 ^ j) b)]) hv hc hv_cells hcl rfl rfl rfl rfl rfl rfl Tryd.underlying22 Tb.zz30 Tb.sz30 rfl rfl fun g56 => ?_
              refine J.yl (y_move rfl rfl) rfl rfl rfl ?_
              refine J.append 0 rfl rfl rfl rfl rfl rfl Tryd.underlying22 Tb.zz30 Tb.sz30 Tb.by30 rfl (by decide) rfl (length_hcs out) (fun w hs => strow hs 2 rfl) (hcs1 out) (by omega) (by decide) (show 1 + out.length = (root (seg l (a + 2 ^ j) b) :: out).length by simp; omega) (show _ = hcs (root (seg l (a + 2 ^ j) b) :: out) by simp [hcs]) fun A2 k2 _ hk2 => ?_
              refine J.yl (y_assign rfl rfl) rfl rfl rfl ?_
              refine J.nil ?_
              refine JQ.block_normal ?_
              refine JQ.keepn 1 ?_
              refine againK14 (a, a + 2 ^ j, root (seg l (a + 2 ^ j) b) :: out, A2, k2) _ ⟨by dsimp only; omega, by dsimp only; omega, by dsimp only; omega, by dsimp only; rw [hpa, hst, List.append_assoc]; rfl, hk2, by dsimp only; rw [List.length_cons]; omega, j, hd1, by dsimp only; omega⟩ (by dsimp only; omega) (okE_cons rfl (okE_cons rfl (okE_cons (slotI (by dsimp only; omega)) okE_nil))) (okE_cons rfl (okE_cons rfl okE_nil))
            · have hst := sub_seg_r l a b i (decide (a = 0)) (by omega) (by omega) (by omega)
              rw [hj] at hst
              have hne : decide (a + 2 ^ j = 0) = false := decide_eq_false (by omega)
              refine JC.seq fun K21 hK21 => ?_
              refine JC.region ?_
              refine J.yl (y_move rfl rfl) rfl rfl rfl ?_
              refine J.yl (y_move rfl rfl) rfl rfl rfl ?_
              refine J.yl (y_move rfl rfl) rfl rfl rfl ?_
              refine J.callv rfl rfl rfl rfl Tb.cl117 rfl (troot_fn T m n es clock l hM hn hN j a (a + 2 ^ j) _ _ hd1 (by omega) (by omega) (by omega) rfl (by omega) _ (fun w h => hF w h.1)) ?_
              refine J.storeW 0 rfl rfl rfl rfl rfl rfl rfl Tb.sz30 (hcl _) (hcl _) (hc1 _) ?_
              refine J.nil ?_
              refine JQ.next hK21 ?_
              refine JC.region ?_
              refine J.yl (y_move rfl rfl) rfl rfl rfl ?_
              refine J.yl (y_assign rfl rfl) rfl rfl rfl ?_
              refine J.nil ?_
              refine JQ.next hK19 ?_
              refine JC.region ?_
              refine J.yl (y_lbW 0 rfl Tb.ag30 Tb.sz30 (hcl _) rfl rfl) rfl rfl rfl ?_
              refine J.bsN (cs := hcs ([root (seg l a (a + 2 ^ j))])) ([root (seg l a (a + 2 ^ j))]) hv hc hv_cells hcl rfl rfl rfl rfl rfl rfl Tryd.underlying22 Tb.zz30 Tb.sz30 rfl rfl fun g56 => ?_
              refine J.yl (y_move rfl rfl) rfl rfl rfl ?_
              refine J.append 0 rfl rfl rfl rfl rfl rfl Tryd.underlying22 Tb.zz30 Tb.sz30 Tb.by30 rfl (by decide) rfl (length_hcs out) (fun w hs => strow hs 2 rfl) (hcs1 out) (by omega) (by decide) (show 1 + out.length = (root (seg l a (a + 2 ^ j)) :: out).length by simp; omega) (show _ = hcs (root (seg l a (a + 2 ^ j)) :: out) by simp [hcs]) fun A2 k2 _ hk2 => ?_
              refine J.yl (y_assign rfl rfl) rfl rfl rfl ?_
              refine J.nil ?_
              refine JQ.block_normal ?_
              refine JQ.keepn 1 ?_
              refine againK14 (a + 2 ^ j, b, root (seg l a (a + 2 ^ j)) :: out, A2, k2) _ ⟨by dsimp only; omega, by dsimp only; omega, by dsimp only; omega, by dsimp only; rw [hpa, hst, hne, List.append_assoc]; rfl, hk2, by dsimp only; rw [List.length_cons]; omega, j, hd2, by dsimp only; omega⟩ (by dsimp only; omega) (okE_cons rfl (okE_cons (slotI (by dsimp only; omega)) (okE_cons rfl okE_nil))) (okE_cons rfl (okE_cons rfl okE_nil))
          · have hib : i = b := by omega
            have hlen := seg_len l a b (by omega)
            refine JC.exit ?_
            refine JQ.then_exit (JQ.then_exit (JQ.block_hit (JQ.next hK13 ?_)))
            refine JC.seq fun K22 hK22 => ?_
            refine JC.seq fun K23 hK23 => ?_
            refine JC.region ?_
            refine J.yl (y_move rfl rfl) rfl rfl rfl ?_
            refine J.yl (y_gt rfl rfl rfl) rfl rfl rfl ?_
            refine J.nil ?_
            refine JQ.next hK23 ?_
            refine JC.condp rfl (fun h6 => ?_) (fun h6 => ?_)
            · have hfin : tpf l i z = root (seg l a b) :: out := by
                rw [hp, hpa, sub_all _ _ _ (by rw [hlen]; omega), decide_eq_false (by omega)]; rfl
              refine JC.region ?_
              refine J.yl (y_move rfl rfl) rfl rfl rfl ?_
              refine J.yl (y_move rfl rfl) rfl rfl rfl ?_
              refine J.yl (y_move rfl rfl) rfl rfl rfl ?_
              refine J.callv rfl rfl rfl rfl Tb.cl117 rfl (troot_fn T m n es clock l hM hn hN c a b _ _ hcd (by omega) (by omega) (by omega) rfl rfl _ (fun w h => hF w h.1)) ?_
              refine J.bsN (cs := hcs ([root (seg l a b)])) ([root (seg l a b)]) hv hc hv_cells hcl rfl rfl rfl rfl rfl rfl Tryd.underlying22 Tb.zz30 Tb.sz30 rfl rfl fun g65 => ?_
              refine J.yl (y_move rfl rfl) rfl rfl rfl ?_
              refine J.append 0 rfl rfl rfl rfl rfl rfl Tryd.underlying22 Tb.zz30 Tb.sz30 Tb.by30 rfl (by decide) rfl (length_hcs out) (fun w hs => strow hs 1 rfl) (hcs1 out) (by omega) (by decide) (show 1 + out.length = (root (seg l a b) :: out).length by simp; omega) (show _ = hcs (root (seg l a b) :: out) by simp [hcs]) fun A2 k2 _ hk2 => ?_
              refine J.yl (y_assign rfl rfl) rfl rfl rfl ?_
              refine J.nil ?_
              refine JQ.next hK22 ?_
              refine JC.seq fun K24 hK24 => ?_
              refine JC.region ?_
              refine J.yl (y_move rfl rfl) rfl rfl rfl ?_
              refine J.yl (y_assign rfl rfl) rfl rfl rfl ?_
              refine J.yl (y_assign rfl rfl) rfl rfl rfl ?_
              refine J.nil ?_
              refine JQ.next hK24 ?_
              refine JC.ret ?_
              exact ret2 rfl (r_tmp rfl) (r_tmp rfl) fun w hs => by rw [hfin, hE]; exact Post.of_st hs (A2, k2) hk2 (.cons_cons _ (List.nil_sublist _)) fun _ _ => trivial
            · have hfin : tpf l i z = out := by
                rw [hp, hpa, sub_all _ _ _ (by rw [hlen]; omega), decide_eq_true (by omega)]; rfl
              refine JC.skip ?_
              refine JQ.next hK22 ?_
              refine JC.seq fun K25 hK25 => ?_
              refine JC.region ?_
              refine J.yl (y_move rfl rfl) rfl rfl rfl ?_
              refine J.yl (y_assign rfl rfl) rfl rfl rfl ?_
              refine J.yl (y_assign rfl rfl) rfl rfl rfl ?_
              refine J.nil ?_
              refine JQ.next hK25 ?_
              refine JC.ret ?_
              exact ret2 rfl (r_tmp rfl) (r_tmp rfl) fun w hs => by rw [hfin, hE]; exact Post.of_st hs (A, k) hko (List.Sublist.refl _) fun _ _ => trivial
end Go.Proofs.YtjkfeonbioccmaaDoor
