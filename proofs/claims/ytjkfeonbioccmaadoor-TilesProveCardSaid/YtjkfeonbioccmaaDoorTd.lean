/- Speculum proofs: contracts: paths and proofs that tiles tell. -/
import Derived.Test.YtjkfeonbioccmaaDoorTc
namespace Go.Proofs.YtjkfeonbioccmaaDoor
open Go Go.Sx Go.RowKit
set_option linter.unusedVariables false
set_option linter.unusedSimpArgs false
set_option maxRecDepth 100000
set_option maxHeartbeats 2000000
variable {Gl F : World → Prop}
/-- Where the splits lead: a half is whole, and stands at a multiple of its size. -/
theorem split_at {a b c : Nat} (h : a % 2 ^ c = 0) (h2 : 2 ≤ b - a) (hb : b - a ≤ 2 ^ c) : ∃ j, split (b - a) = 2 ^ j ∧ j < c ∧ a % 2 ^ j = 0 ∧ (a + 2 ^ j) % 2 ^ j = 0 ∧ 0 < 2 ^ j ∧ 2 ^ j < b - a ∧ b - a ≤ 2 * 2 ^ j := by
  obtain ⟨j, hj⟩ := split_pow h2
  have hs := split_spec h2
  rw [hj] at hs
  have hjc : j < c := (Nat.pow_lt_pow_iff_right (show 1 < 2 by decide)).1 (show 2 ^ j < 2 ^ c by omega)
  have hd := dvd_low h (show j ≤ c by omega)
  exact ⟨j, hj, hjc, hd, by rw [Nat.add_mod_right]; exact hd, hs.1, hs.2.1, hs.2.2⟩
theorem tPath_fn (T m n : Nat) (es : Array MapEntry) (clock : Nat) (l : List H) (hM : Mp es (tile l)) (hn : l.length = n) (hN : n ≤ 4096) (i z : Int) (hF : ∀ w, F w → Tt T m n es clock w) :
    FnSpec Tryd.prog Gs 37 [.pointer (some ⟨T, 0, none⟩), .int .i64 i, .int .i64 z] [] F (ι := Option Addr × Nat) (fun q => (tpth l i z).length ≤ q.2) (fun q => .tuple #[.slice q.1 (tpth l i z).length q.2, .int .i64 (tpthE l i z)]) (OwnL (tpth l i z)) (fun _ _ => True) := by
  have hbad : z < 0 ∨ (n : Int) < z ∨ i < 0 ∨ z ≤ i → tpth l i z = [] ∧ tpthE l i z = 82 := fun h => ⟨if_pos (by rw [hn]; exact h), if_pos (by rw [hn]; exact h)⟩
  refine FnSpec.intro Tryd.func37 rfl Tryd.ntmps37 rfl fun X M w => ?_
  refine JC.seq fun K1 hK1 => ?_
  refine JC.region ?_
  refine J.yl (y_assign rfl rfl) rfl rfl rfl ?_
  refine J.yl (y_assign rfl rfl) rfl rfl rfl ?_
  refine J.nil ?_
  refine JQ.next hK1 ?_
  refine JC.seq fun K2 hK2 => ?_
  refine JC.region ?_
  refine J.yl (y_move rfl rfl) rfl rfl rfl ?_
  refine J.yl (y_move rfl rfl) rfl rfl rfl ?_
  refine J.callv rfl rfl rfl rfl Tb.cl116 rfl (within_fn T m n es clock z (fun w h => hF w h.1)) ?_
  refine J.yl (y_assign rfl rfl) rfl rfl rfl ?_
  refine J.nil ?_
  refine JQ.next hK2 ?_
  refine JC.seq fun K3 hK3 => ?_
  refine JC.block ?_
  refine JC.seq fun K4 hK4 => ?_
  refine JC.region ?_
  refine J.yl (y_move rfl rfl) rfl rfl rfl ?_
  refine J.yl (y_ne rfl rfl rfl) rfl rfl rfl ?_
  refine J.yl (y_assign rfl rfl) rfl rfl rfl ?_
  refine J.nil ?_
  refine JQ.next hK4 ?_
  refine JC.condn rfl (fun h1 => ?_) (fun h1 => ?_)
  · have hz : z < 0 ∨ (n : Int) < z := by
      by_cases h : z < 0 ∨ (n : Int) < z
      · exact h
      · exact absurd (if_neg h) h1
    have hE : wthE n z = 82 := if_pos hz
    obtain ⟨hb1, hb2⟩ := hbad (by omega)
    refine JC.seq fun K5 hK5 => ?_
    refine JC.region ?_
    refine J.yl (y_move rfl rfl) rfl rfl rfl ?_
    refine J.yl (y_assign rfl rfl) rfl rfl rfl ?_
    refine J.yl (y_assign rfl rfl) rfl rfl rfl ?_
    refine J.nil ?_
    refine JQ.next hK5 ?_
    refine JC.ret ?_
    refine JQ.block_ret (JQ.then_ret ?_)
    refine JQ.st ?_ (fun w hs => hs.nilrow 30 32)
    exact ret2 rfl (r_tmp rfl) (r_tmp rfl) fun w hs => by rw [hb1, hb2, hE]; exact Post.of_st hs (none, 0) (Nat.le_refl _) (List.Sublist.refl _) fun _ _ => trivial
  · have hok : ¬ (z < 0 ∨ (n : Int) < z) := fun h => by
      have : wthE n z = 82 := if_pos h
      rw [this] at h1; exact absurd h1 (by decide)
    refine JC.seq fun K6 hK6 => ?_
    refine JC.region ?_
    refine J.yl (y_move rfl rfl) rfl rfl rfl ?_
    refine J.ylp (y_lt rfl rfl rfl) rfl rfl rfl (fun h2 => ?_) (fun h2 => ?_)
    · obtain ⟨hb1, hb2⟩ := hbad (by omega)
      refine J.yl (y_move rfl rfl) rfl rfl rfl ?_
      refine J.gno (b := true) rfl rfl rfl rfl rfl rfl ?_
      refine J.gno (b := true) rfl rfl rfl rfl rfl rfl ?_
      refine J.gno (b := true) rfl rfl rfl rfl rfl rfl ?_
      refine J.yl (y_pick rfl rfl (fun _ => rfl) (fun h => by cases h)) rfl rfl rfl ?_
      refine J.yl (y_assign rfl rfl) rfl rfl rfl ?_
      refine J.nil ?_
      refine JQ.next hK6 ?_
      refine JC.yes rfl ?_
      refine JC.seq fun K7 hK7 => ?_
      refine JC.region ?_
      refine J.yl (y_assign rfl rfl) rfl rfl rfl ?_
      refine J.yl (y_assign rfl rfl) rfl rfl rfl ?_
      refine J.nil ?_
      refine JQ.next hK7 ?_
      refine JC.ret ?_
      refine JQ.block_ret (JQ.then_ret ?_)
      refine JQ.st ?_ (fun w hs => hs.nilrow 30 32)
      exact ret2 rfl (r_tmp rfl) (r_tmp rfl) fun w hs => by rw [hb1, hb2]; exact Post.of_st hs (none, 0) (Nat.le_refl _) (List.Sublist.refl _) fun _ _ => trivial
    · refine J.yl (y_move rfl rfl) rfl rfl rfl ?_
      refine J.gyes (y_move rfl rfl) rfl rfl rfl rfl rfl rfl ?_
      refine J.gyes (y_move rfl rfl) rfl rfl rfl rfl rfl rfl ?_
      refine J.gyes (y_ge rfl rfl rfl) rfl rfl rfl rfl rfl rfl ?_
      refine J.yl (y_pick rfl rfl (fun h => by cases h) (fun _ => rfl)) rfl rfl rfl ?_
      refine J.yl (y_assign rfl rfl) rfl rfl rfl ?_
      refine J.nil ?_
      refine JQ.next hK6 ?_
      refine JC.condp rfl (fun h3 => ?_) (fun h3 => ?_)
      · obtain ⟨hb1, hb2⟩ := hbad (by omega)
        refine JC.seq fun K8 hK8 => ?_
        refine JC.region ?_
        refine J.yl (y_assign rfl rfl) rfl rfl rfl ?_
        refine J.yl (y_assign rfl rfl) rfl rfl rfl ?_
        refine J.nil ?_
        refine JQ.next hK8 ?_
        refine JC.ret ?_
        refine JQ.block_ret (JQ.then_ret ?_)
        refine JQ.st ?_ (fun w hs => hs.nilrow 30 32)
        exact ret2 rfl (r_tmp rfl) (r_tmp rfl) fun w hs => by rw [hb1, hb2]; exact Post.of_st hs (none, 0) (Nat.le_refl _) (List.Sublist.refl _) fun _ _ => trivial
      · obtain ⟨i, rfl⟩ : ∃ q : Nat, i = q := ⟨i.toNat, by omega⟩
        obtain ⟨z, rfl⟩ : ∃ q : Nat, z = q := ⟨z.toNat, by omega⟩
        have hp : tpth l i z = path (seg l 0 z) i := by
          rw [tpth, if_neg (by omega), Int.toNat_natCast, Int.toNat_natCast, seg, List.drop_zero]
        have hE : tpthE l i z = 0 := by rw [tpthE, if_neg (by omega)]
        refine JC.skip ?_
        refine JQ.block_normal (JQ.next hK3 ?_)
        refine JC.seq fun K9 hK9 => ?_
        refine JC.region ?_
        refine J.yl (y_assign rfl rfl) rfl rfl rfl ?_
        refine J.nil ?_
        refine JQ.next hK9 ?_
        refine JC.seq fun K10 hK10 => ?_
        refine JC.seq fun K11 hK11 => ?_
        refine JC.region ?_
        refine J.yl (y_move rfl rfl) rfl rfl rfl ?_
        refine J.yl (y_assign rfl rfl) rfl rfl rfl ?_
        refine J.yl (y_assign rfl rfl) rfl rfl rfl ?_
        refine J.nil ?_
        refine JQ.next hK11 ?_
        refine JC.block ?_
        refine JC.st ?_ (fun w hs => hs.nilrow 30 32)
        refine JC.loopE (σ := Nat × Nat × List H × Option Addr × Nat) (M := fun q => [(9, .slice q.2.2.2.1 q.2.2.1.length q.2.2.2.2), (10, .int .i64 (q.1 : Int)), (11, .int .i64 (q.2.1 : Int))]) (kp := [(0, _), (1, _)]) (hkp := (okE_cons rfl (okE_cons rfl okE_nil))) (Dc := fun q => [.row (.slice q.2.2.2.1 q.2.2.1.length q.2.2.2.2) 30 32 q.2.2.1.length (hcs q.2.2.1)]) (H := fun _ => F) (Ψ := fun q => q.1 ≤ i ∧ i < q.2.1 ∧ q.2.1 ≤ z ∧ path (seg l 0 z) i = path (seg l q.1 q.2.1) (i - q.1) ++ q.2.2.1 ∧ q.2.2.1.length ≤ q.2.2.2.2 ∧ q.2.2.1.length + (q.2.1 - q.1) ≤ z ∧ ∃ c, q.1 % 2 ^ c = 0 ∧ q.2.1 - q.1 ≤ 2 ^ c) (μ := fun q => q.2.1 - q.1) (0, z, [], none, 0) ⟨by dsimp only; omega, by dsimp only; omega, by dsimp only; omega, by simp, Nat.le_refl _, by simp, 12, rfl, by have : (2 : Nat) ^ 12 = 4096 := rfl; dsimp only; omega⟩ (okE_cons rfl (okE_cons rfl (okE_cons rfl okE_nil))) (fun w h => h) (fun sK12 hK12 K12 againK12 => ?_)
        obtain ⟨a, b, out, A, k⟩ := sK12
        dsimp only at hK12 againK12 ⊢
        obtain ⟨ha, hb, hbz, hpa, hko, hlo, c, hcd, hcb⟩ := hK12
        refine JC.seq fun K13 hK13 => ?_
        refine JC.seq fun K14 hK14 => ?_
        refine JC.region ?_
        refine J.yl (y_move rfl rfl) rfl rfl rfl ?_
        refine J.yl (y_move rfl rfl) rfl rfl rfl ?_
        refine J.yl (y_sub64 rfl rfl rfl (by omega)) rfl rfl rfl ?_
        refine J.yl (y_gt rfl rfl rfl) rfl rfl rfl ?_
        refine J.nil ?_
        refine JQ.next hK14 ?_
        refine JC.condp rfl (fun h4 => ?_) (fun h4 => ?_)
        · obtain ⟨j, hj, hjc, hd1, hd2, hj0, hj1, hj2⟩ := split_at hcd (show 2 ≤ b - a by omega) hcb
          refine JC.skip ?_
          refine JQ.next hK13 ?_
          refine JC.block ?_
          refine JC.seq fun K15 hK15 => ?_
          refine JC.region ?_
          refine J.yl (y_move rfl rfl) rfl rfl rfl ?_
          refine J.yl (y_move rfl rfl) rfl rfl rfl ?_
          refine J.yl (y_move rfl rfl) rfl rfl rfl ?_
          refine J.yl (y_sub64 rfl rfl rfl (by omega)) rfl rfl rfl ?_
          refine J.callv rfl rfl rfl rfl Tb.cl107 rfl ((split_fn (b - a) _ (by omega) (by omega)).to (by rw [hj])) ?_
          refine J.yl (y_add64 rfl rfl rfl (by omega)) rfl rfl rfl ?_
          refine J.yl (y_assign rfl rfl) rfl rfl rfl ?_
          refine J.nil ?_
          refine JQ.next hK15 ?_
          refine JC.seq fun K16 hK16 => ?_
          refine JC.region ?_
          refine J.yl (y_move rfl rfl) rfl rfl rfl ?_
          refine J.yl (y_move rfl rfl) rfl rfl rfl ?_
          refine J.yl (y_move rfl rfl) rfl rfl rfl ?_
          refine J.callv rfl rfl rfl rfl Tb.cl117 rfl (troot_fn T m n es clock l hM hn hN j (a + 2 ^ j) b _ _ hd2 (by omega) (by omega) (by omega) (by omega) rfl _ (fun w h => hF w h.1)) ?_
          refine J.alloc rfl rfl rfl rfl Tb.zz30 rfl fun g13 => ?_
          refine J.storeW 0 rfl rfl rfl rfl rfl rfl rfl Tb.sz30 (hcl _) (hcl _) (hc1 _) ?_
          refine J.nil ?_
          refine JQ.next hK16 ?_
          refine JC.seq fun K17 hK17 => ?_
          refine JC.seq fun K18 hK18 => ?_
          refine JC.region ?_
          refine J.yl (y_move rfl rfl) rfl rfl rfl ?_
          refine J.yl (y_move rfl rfl) rfl rfl rfl ?_
          refine J.yl (y_lt rfl rfl rfl) rfl rfl rfl ?_
          refine J.nil ?_
          refine JQ.next hK18 ?_
          refine JC.condp rfl (fun h5 => ?_) (fun h5 => ?_)
          · have hst := path_seg_l l a b i (by omega) (by omega) ha (by omega)
            rw [hj] at hst
            refine JC.region ?_
            refine J.yl (y_move rfl rfl) rfl rfl rfl ?_
            refine J.yl (y_assign rfl rfl) rfl rfl rfl ?_
            refine J.nil ?_
            refine JQ.next hK17 ?_
            refine JC.region ?_
            refine J.yl (y_lbW 0 rfl Tb.ag30 Tb.sz30 (hcl _) rfl rfl) rfl rfl rfl ?_
            refine J.bsN (cs := hcs ([root (seg l (a + 2 ^ j) b)])) ([root (seg l (a + 2 ^ j) b)]) hv hc hv_cells hcl rfl rfl rfl rfl rfl rfl Tryd.underlying22 Tb.zz30 Tb.sz30 rfl rfl fun g54 => ?_
            refine J.yl (y_move rfl rfl) rfl rfl rfl ?_
            refine J.append 0 rfl rfl rfl rfl rfl rfl Tryd.underlying22 Tb.zz30 Tb.sz30 Tb.by30 rfl (by decide) rfl (length_hcs out) (fun w hs => strow hs 2 rfl) (hcs1 out) (by omega) (by decide) (show 1 + out.length = (root (seg l (a + 2 ^ j) b) :: out).length by simp; omega) (show _ = hcs (root (seg l (a + 2 ^ j) b) :: out) by simp [hcs]) fun A2 k2 _ hk2 => ?_
            refine J.yl (y_assign rfl rfl) rfl rfl rfl ?_
            refine J.nil ?_
            refine JQ.block_normal ?_
            refine JQ.keepn 1 ?_
            refine againK12 (a, a + 2 ^ j, root (seg l (a + 2 ^ j) b) :: out, A2, k2) _ ⟨by dsimp only; omega, by dsimp only; omega, by dsimp only; omega, by dsimp only; rw [hpa, hst, List.append_assoc]; rfl, hk2, by dsimp only; rw [List.length_cons]; omega, j, hd1, by dsimp only; omega⟩ (by dsimp only; omega) (okE_cons rfl (okE_cons rfl (okE_cons (slotI (by dsimp only; omega)) okE_nil))) (okE_cons rfl (okE_cons rfl okE_nil))
          · have hst := path_seg_r l a b i (by omega) (by omega) (by omega)
            rw [hj] at hst
            refine JC.seq fun K19 hK19 => ?_
            refine JC.region ?_
            refine J.yl (y_move rfl rfl) rfl rfl rfl ?_
            refine J.yl (y_move rfl rfl) rfl rfl rfl ?_
            refine J.yl (y_move rfl rfl) rfl rfl rfl ?_
            refine J.callv rfl rfl rfl rfl Tb.cl117 rfl (troot_fn T m n es clock l hM hn hN j a (a + 2 ^ j) _ _ hd1 (by omega) (by omega) (by omega) rfl (by omega) _ (fun w h => hF w h.1)) ?_
            refine J.storeW 0 rfl rfl rfl rfl rfl rfl rfl Tb.sz30 (hcl _) (hcl _) (hc1 _) ?_
            refine J.nil ?_
            refine JQ.next hK19 ?_
            refine JC.region ?_
            refine J.yl (y_move rfl rfl) rfl rfl rfl ?_
            refine J.yl (y_assign rfl rfl) rfl rfl rfl ?_
            refine J.nil ?_
            refine JQ.next hK17 ?_
            refine JC.region ?_
            refine J.yl (y_lbW 0 rfl Tb.ag30 Tb.sz30 (hcl _) rfl rfl) rfl rfl rfl ?_
            refine J.bsN (cs := hcs ([root (seg l a (a + 2 ^ j))])) ([root (seg l a (a + 2 ^ j))]) hv hc hv_cells hcl rfl rfl rfl rfl rfl rfl Tryd.underlying22 Tb.zz30 Tb.sz30 rfl rfl fun g54 => ?_
            refine J.yl (y_move rfl rfl) rfl rfl rfl ?_
            refine J.append 0 rfl rfl rfl rfl rfl rfl Tryd.underlying22 Tb.zz30 Tb.sz30 Tb.by30 rfl (by decide) rfl (length_hcs out) (fun w hs => strow hs 2 rfl) (hcs1 out) (by omega) (by decide) (show 1 + out.length = (root (seg l a (a + 2 ^ j)) :: out).length by simp; omega) (show _ = hcs (root (seg l a (a + 2 ^ j)) :: out) by simp [hcs]) fun A2 k2 _ hk2 => ?_
            refine J.yl (y_assign rfl rfl) rfl rfl rfl ?_
            refine J.nil ?_
            refine JQ.block_normal ?_
            refine JQ.keepn 1 ?_
            refine againK12 (a + 2 ^ j, b, root (seg l a (a + 2 ^ j)) :: out, A2, k2) _ ⟨by dsimp only; omega, by dsimp only; omega, by dsimp only; omega, by dsimp only; rw [hpa, hst, List.append_assoc]; rfl, hk2, by dsimp only; rw [List.length_cons]; omega, j, hd2, by dsimp only; omega⟩ (by dsimp only; omega) (okE_cons rfl (okE_cons (slotI (by dsimp only; omega)) (okE_cons rfl okE_nil))) (okE_cons rfl (okE_cons rfl okE_nil))
        · have hfin : tpth l i z = out := by
            rw [hp, hpa, path_one _ _ (by rw [seg_len _ _ _ (by omega)]; omega)]; rfl
          refine JC.exit ?_
          refine JQ.then_exit (JQ.then_exit (JQ.block_hit (JQ.next hK10 ?_)))
          refine JC.seq fun K20 hK20 => ?_
          refine JC.region ?_
          refine J.yl (y_move rfl rfl) rfl rfl rfl ?_
          refine J.yl (y_assign rfl rfl) rfl rfl rfl ?_
          refine J.yl (y_assign rfl rfl) rfl rfl rfl ?_
          refine J.nil ?_
          refine JQ.next hK20 ?_
          refine JC.ret ?_
          exact ret2 rfl (r_tmp rfl) (r_tmp rfl) fun w hs => by rw [hfin, hE]; exact Post.of_st hs (A, k) hko (List.Sublist.refl _) fun _ _ => trivial
end Go.Proofs.YtjkfeonbioccmaaDoor
