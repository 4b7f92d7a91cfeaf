/- Speculum proofs: contracts: a path is checked. -/
import Derived.Test.YtjkfeonbioccmaaDoorFa
import Derived.Test.YtjkfeonbioccmaaDoorPp
import Derived.Test.YtjkfeonbioccmaaDoorSxZ
namespace Go.Proofs.YtjkfeonbioccmaaDoor
open Go Go.Sx Go.RowKit
set_option linter.unusedVariables false
set_option linter.unusedSimpArgs false
set_option maxRecDepth 100000
set_option maxHeartbeats 4000000
variable {Gl F : World → Prop}
theorem climb_end (i la u j : Nat) (a r : H) (p : List H) (hp : p.length = j) (hu : u ≤ j) (h : la = 0 ∨ u = j) : (climb (up i la) a (p.drop u) = some r) ↔ (la = 0 ∧ u = j ∧ a = r) := by
  by_cases hl : la = 0
  · subst hl
    rw [up_zero]
    by_cases hj : u = j
    · have : p.drop u = [] := List.drop_of_length_le (by omega)
      rw [this]
      show some a = some r ↔ _
      simp [hj]
    · have : p.drop u = p[u] :: p.drop (u + 1) := List.drop_eq_getElem_cons (by omega)
      rw [this]
      show none = some r ↔ _
      simp [hj]
  · have hj : u = j := h.resolve_left hl
    have : p.drop u = [] := List.drop_of_length_le (by omega)
    rw [this]
    by_cases h2 : i % 2 = 1 ∨ i = la
    · rw [up_R hl h2]
      show none = some r ↔ _
      simp [hl]
    · rw [up_L hl h2]
      show none = some r ↔ _
      simp [hl]
theorem pcheck_fn (leaf : H) (i n : Int) (p : List H) (r : H) (A : Option Addr) (j k : Nat) (hj : p.length = j) (hk : j ≤ k) (hJ : j ≤ 1000000) (hA : ∀ w, F w → Sl w A (hcs p)) : PureFn Tryd.prog Gs 73 [hv leaf, .int .i64 i, .int .i64 n, .slice A j k, hv r] F (.int .i64 (pchk leaf i n p r)) := by
  have hbad : n < 1 ∨ 4096 < n ∨ i < 0 ∨ n ≤ i → pchk leaf i n p r = 2 := fun h => if_pos h
  refine FnSpec.intro Tryd.func73 rfl Tryd.ntmps73 rfl fun X M w => ?_
  refine JC.seq fun K1 hK1 => ?_
  refine JC.region ?_
  refine J.box rfl rfl rfl rfl rfl rfl fun g5 => ?_
  refine J.box rfl rfl rfl rfl rfl rfl fun g9 => ?_
  refine J.yl (y_assign rfl rfl) rfl rfl rfl ?_
  refine J.nil ?_
  refine JQ.next hK1 ?_
  refine JC.scope ?_
  refine JC.seq fun K2 hK2 => ?_
  refine JC.seq fun K3 hK3 => ?_
  refine JC.region ?_
  refine J.yl (y_move rfl rfl) rfl rfl rfl ?_
  refine J.ylp (y_lt rfl rfl rfl) rfl rfl rfl (fun h1 => ?_) (fun h1 => ?_)
  · have hb := hbad (by omega)
    refine J.yl (y_move rfl rfl) rfl rfl rfl ?_
    refine J.gno (b := true) rfl rfl rfl rfl rfl rfl ?_
    refine J.gno (b := true) rfl rfl rfl rfl rfl rfl ?_
    refine J.yl (y_pick rfl rfl (fun _ => rfl) (fun h => by cases h)) rfl rfl rfl ?_
    refine J.yl (y_move rfl rfl) rfl rfl rfl ?_
    refine J.gno (b := true) rfl rfl rfl rfl rfl rfl ?_
    refine J.gno (b := true) rfl rfl rfl rfl rfl rfl ?_
    refine J.yl (y_pick rfl rfl (fun _ => rfl) (fun h => by cases h)) rfl rfl rfl ?_
    refine J.yl (y_move rfl rfl) rfl rfl rfl ?_
    refine J.gno (b := true) rfl rfl rfl rfl rfl rfl ?_
    refine J.gno (b := true) rfl rfl rfl rfl rfl rfl ?_
    refine J.gno (b := true) rfl rfl rfl rfl rfl rfl ?_
    refine J.yl (y_pick rfl rfl (fun _ => rfl) (fun h => by cases h)) rfl rfl rfl ?_
    refine J.nil ?_
    refine JQ.next hK3 ?_
    refine JC.yes rfl ?_
    refine JC.seq fun K4 hK4 => ?_
    refine JC.region ?_
    refine J.yl (y_assign rfl rfl) rfl rfl rfl ?_
    refine J.nil ?_
    refine JQ.next hK4 ?_
    refine JC.ret ?_
    refine JQ.then_ret (JQ.scope_ret ?_)
    exact ret1 rfl (r_tmp rfl) fun w hs => by rw [hb]; exact Post.pure hs
  · refine J.yl (y_move rfl rfl) rfl rfl rfl ?_
    refine J.gyes (y_move rfl rfl) rfl rfl rfl rfl rfl rfl ?_
    refine J.ypG (y_gt rfl rfl rfl) rfl rfl rfl rfl rfl rfl (fun h2 => ?_) (fun h2 => ?_)
    · have hb := hbad (by omega)
      refine J.yl (y_pick rfl rfl (fun h => by cases h) (fun _ => rfl)) rfl rfl rfl ?_
      refine J.yl (y_move rfl rfl) rfl rfl rfl ?_
      refine J.gno (b := true) rfl rfl rfl rfl rfl rfl ?_
      refine J.gno (b := true) rfl rfl rfl rfl rfl rfl ?_
      refine J.yl (y_pick rfl rfl (fun _ => rfl) (fun h => by cases h)) rfl rfl rfl ?_
      refine J.yl (y_move rfl rfl) rfl rfl rfl ?_
      refine J.gno (b := true) rfl rfl rfl rfl rfl rfl ?_
      refine J.gno (b := true) rfl rfl rfl rfl rfl rfl ?_
      refine J.gno (b := true) rfl rfl rfl rfl rfl rfl ?_
      refine J.yl (y_pick rfl rfl (fun _ => rfl) (fun h => by cases h)) rfl rfl rfl ?_
      refine J.nil ?_
      refine JQ.next hK3 ?_
      refine JC.yes rfl ?_
      refine JC.seq fun K5 hK5 => ?_
      refine JC.region ?_
      refine J.yl (y_assign rfl rfl) rfl rfl rfl ?_
      refine J.nil ?_
      refine JQ.next hK5 ?_
      refine JC.ret ?_
      refine JQ.then_ret (JQ.scope_ret ?_)
      exact ret1 rfl (r_tmp rfl) fun w hs => by rw [hb]; exact Post.pure hs
    · refine J.yl (y_pick rfl rfl (fun h => by cases h) (fun _ => rfl)) rfl rfl rfl ?_
      refine J.yl (y_move rfl rfl) rfl rfl rfl ?_
      refine J.gyes (y_move rfl rfl) rfl rfl rfl rfl rfl rfl ?_
      refine J.ypG (y_lt rfl rfl rfl) rfl rfl rfl rfl rfl rfl (fun h3 => ?_) (fun h3 => ?_)
      · have hb := hbad (by omega)
        refine J.yl (y_pick rfl rfl (fun h => by cases h) (fun _ => rfl)) rfl rfl rfl ?_
        refine J.yl (y_move rfl rfl) rfl rfl rfl ?_
        refine J.gno (b := true) rfl rfl rfl rfl rfl rfl ?_
        refine J.gno (b := true) rfl rfl rfl rfl rfl rfl ?_
        refine J.gno (b := true) rfl rfl rfl rfl rfl rfl ?_
        refine J.yl (y_pick rfl rfl (fun _ => rfl) (fun h => by cases h)) rfl rfl rfl ?_
        refine J.nil ?_
        refine JQ.next hK3 ?_
        refine JC.yes rfl ?_
        refine JC.seq fun K6 hK6 => ?_
        refine JC.region ?_
        refine J.yl (y_assign rfl rfl) rfl rfl rfl ?_
        refine J.nil ?_
        refine JQ.next hK6 ?_
        refine JC.ret ?_
        refine JQ.then_ret (JQ.scope_ret ?_)
        exact ret1 rfl (r_tmp rfl) fun w hs => by rw [hb]; exact Post.pure hs
      · refine J.yl (y_pick rfl rfl (fun h => by cases h) (fun _ => rfl)) rfl rfl rfl ?_
        refine J.yl (y_move rfl rfl) rfl rfl rfl ?_
        refine J.gyes (y_move rfl rfl) rfl rfl rfl rfl rfl rfl ?_
        refine J.gyes (y_move rfl rfl) rfl rfl rfl rfl rfl rfl ?_
        refine J.gyes (y_ge rfl rfl rfl) rfl rfl rfl rfl rfl rfl ?_
        refine J.yl (y_pick rfl rfl (fun h => by cases h) (fun _ => rfl)) rfl rfl rfl ?_
        refine J.nil ?_
        refine JQ.next hK3 ?_
        refine JC.condp rfl (fun h4 => ?_) (fun h4 => ?_)
        · have hb := hbad (by omega)
          refine JC.seq fun K7 hK7 => ?_
          refine JC.region ?_
          refine J.yl (y_assign rfl rfl) rfl rfl rfl ?_
          refine J.nil ?_
          refine JQ.next hK7 ?_
          refine JC.ret ?_
          refine JQ.then_ret (JQ.scope_ret ?_)
          exact ret1 rfl (r_tmp rfl) fun w hs => by rw [hb]; exact Post.pure hs
        · obtain ⟨i0, rfl⟩ : ∃ q : Nat, i = q := ⟨i.toNat, by omega⟩
          obtain ⟨n, rfl⟩ : ∃ q : Nat, n = q := ⟨n.toNat, by omega⟩
          refine JC.skip ?_
          refine JQ.next hK2 ?_
          refine JC.seq fun K8 hK8 => ?_
          refine JC.region ?_
          refine J.yl (y_move rfl rfl) rfl rfl rfl ?_
          refine J.yl (y_sub64 rfl rfl rfl (by omega)) rfl rfl rfl ?_
          refine J.yl (y_assign rfl rfl) rfl rfl rfl ?_
          refine J.nil ?_
          refine JQ.next hK8 ?_
          refine JC.seq fun K9 hK9 => ?_
          refine JC.region ?_
          refine J.yl (y_assign rfl rfl) rfl rfl rfl ?_
          refine J.nil ?_
          refine JQ.next hK9 ?_
          refine JC.seq fun K10 hK10 => ?_
          refine JC.label ?_
          refine JQ.next hK10 ?_
          refine JC.seq fun K11 hK11 => ?_
          refine JC.seq fun K12 hK12 => ?_
          refine JC.region ?_
          refine J.yl (y_move rfl rfl) rfl rfl rfl ?_
          refine J.yl (y_len rfl Tryd.underlying22 rfl) rfl rfl rfl ?_
          refine J.yl (y_move rfl rfl) rfl rfl rfl ?_
          refine J.nil ?_
          refine JQ.next hK12 ?_
          refine JC.cutE (σ := Nat × Nat × H × Nat) (M := fun q => [(11, .int .i64 (q.1 : Int)), (12, .int .i64 (q.2.1 : Int))]) (kp := [(3, _), (5, _), (9, _)]) (hkp := (okE_cons rfl (okE_cons rfl (okE_cons rfl okE_nil)))) (Dc := fun q => [.box g9 30 (hc r), .box g5 30 (hc q.2.2.1)]) (H := fun _ => F) (Ψ := fun q => q.2.1 ≤ j ∧ (q.1 = 0 ∨ q.2.1 = j) ∧ climb (up q.2.2.2 q.1) q.2.2.1 (p.drop q.2.1) = climb (up i0 (n - 1)) leaf p) (fun K13 againK13 => ?_) (fun sK13 hK13 => ?_)
          refine JC.block ?_
          · refine JC.loopE (σ := Nat × Nat × Nat × H) (M := fun q => [(1, .int .i64 (q.1 : Int)), (11, .int .i64 (q.2.1 : Int)), (12, .int .i64 (q.2.2.1 : Int)), (34, .int .i64 (q.2.2.1 : Int))]) (kp := [(3, _), (5, _), (9, _), (32, _), (33, _)]) (hkp := (okE_cons rfl (okE_cons rfl (okE_cons rfl (okE_cons rfl (okE_cons rfl okE_nil)))))) (Dc := fun q => [.box g9 30 (hc r), .box g5 30 (hc q.2.2.2)]) (H := fun _ => F) (Ψ := fun q => q.2.2.1 ≤ j ∧ q.1 ≤ 5000 ∧ q.2.1 ≤ 5000 ∧ climb (up q.1 q.2.1) q.2.2.2 (p.drop q.2.2.1) = climb (up i0 (n - 1)) leaf p) (μ := fun q => j - q.2.2.1) (i0, n - 1, 0, leaf) ⟨by dsimp only; omega, by dsimp only; omega, by dsimp only; omega, rfl⟩ (okE_cons rfl (okE_cons (slotI (by dsimp only; omega)) (okE_cons rfl (okE_cons rfl okE_nil)))) (fun w h => h) (fun sK14 hK14 K14 againK14 => ?_)
            obtain ⟨i, la, u, a⟩ := sK14
            dsimp only at hK14 againK14 ⊢
            obtain ⟨hu, hi5, hla5, hkl⟩ := hK14
            refine JC.seq fun K15 hK15 => ?_
            refine JC.region ?_
            refine J.yl (y_lt rfl rfl rfl) rfl rfl rfl ?_
            refine J.nil ?_
            refine JQ.next hK15 ?_
            refine JC.seq fun K16 hK16 => ?_
            refine JC.condp rfl (fun h5 => ?_) (fun h5 => ?_)
            · obtain ⟨x, hx⟩ : ∃ x, p[u]? = some x := ⟨_, List.getElem?_eq_getElem (show u < p.length by omega)⟩
              have hd : p.drop u = x :: p.drop (u + 1) := by
                rw [List.drop_eq_getElem_cons (show u < p.length by omega), (List.getElem?_eq_some_iff.1 hx).2]
              refine JC.skip ?_
              refine JQ.next hK16 ?_
              refine JC.seq fun K17 hK17 => ?_
              refine JC.block ?_
              refine JC.seq fun K18 hK18 => ?_
              refine JC.region ?_
              refine J.yl (y_hidx u rfl Tryd.underlying22 Tb.sz30 rfl rfl rfl hj (by omega) (fun w hs => hA w hs.fact)) rfl rfl rfl ?_
              refine J.yl (y_hld x rfl Tb.ag30 Tb.sz30 rfl hx (fun w hs => hA w hs.fact)) rfl rfl rfl ?_
              refine J.alloc rfl rfl rfl rfl Tb.zz30 rfl fun g14 => ?_
              refine J.storeW 0 rfl rfl rfl rfl rfl rfl rfl Tb.sz30 (hcl _) (hcl _) (hc1 _) ?_
              refine J.nil ?_
              refine JQ.next hK18 ?_
              refine JC.seq fun K19 hK19 => ?_
              refine JC.seq fun K20 hK20 => ?_
              refine JC.region ?_
              refine J.yl (y_move rfl rfl) rfl rfl rfl ?_
              refine J.yl (y_eq rfl rfl rfl) rfl rfl rfl ?_
              refine J.nil ?_
              refine JQ.next hK20 ?_
              refine JC.condp rfl (fun h6 => ?_) (fun h6 => ?_)
              · refine JC.exit ?_
                refine JQ.then_exit (JQ.block_miss rfl (JQ.then_exit (JQ.then_exit (JQ.block_hit ?_))))
                refine JQ.drop ?_
                refine againK13 (la, u, a, i) _ ⟨by dsimp only; omega, .inl (by dsimp only; omega), hkl⟩ (okE_cons rfl (okE_cons rfl okE_nil)) (okE_cons rfl (okE_cons rfl (okE_cons rfl okE_nil)))
              · have hl0 : la ≠ 0 := by omega
                refine JC.skip ?_
                refine JQ.next hK19 ?_
                refine JC.seq fun K21 hK21 => ?_
                refine JC.seq fun K22 hK22 => ?_
                refine JC.cutE (σ := Bool × Unit) (M := fun q => [(47, .bool q.1)]) (kp := [(1, _), (3, _), (5, _), (9, _), (11, _), (12, _), (14, _), (32, _), (33, _), (34, _)]) (hkp := (okE_cons rfl (okE_cons rfl (okE_cons rfl (okE_cons rfl (okE_cons rfl (okE_cons rfl (okE_cons rfl (okE_cons rfl (okE_cons rfl (okE_cons rfl okE_nil))))))))))) (Dc := fun _ => [.box g14 30 (hc x), .box g9 30 (hc r), .box g5 30 (hc a)]) (H := fun _ => F) (Ψ := fun q => (q.1 = true ↔ (i % 2 = 1 ∨ i = la))) (fun K23 againK23 => ?_) (fun sK23 hK23 => ?_)
                refine JC.region ?_
                refine J.yl (y_move rfl rfl) rfl rfl rfl ?_
                refine J.yl (y_rem64 rfl rfl rfl (by omega)) rfl rfl rfl ?_
                · refine J.ylp (y_eq rfl rfl rfl) rfl rfl rfl (fun h7 => ?_) (fun h7 => ?_)
                  · refine J.yl (y_move rfl rfl) rfl rfl rfl ?_
                    refine J.gno (b := true) rfl rfl rfl rfl rfl rfl ?_
                    refine J.gno (b := true) rfl rfl rfl rfl rfl rfl ?_
                    refine J.gno (b := true) rfl rfl rfl rfl rfl rfl ?_
                    refine J.yl (y_pick rfl rfl (fun _ => rfl) (fun h => by cases h)) rfl rfl rfl ?_
                    refine J.nil ?_
                    refine againK23 (true, ()) _ ⟨fun _ => .inl (by omega), fun _ => rfl⟩ (okE_cons rfl okE_nil) (okE_cons rfl (okE_cons rfl (okE_cons rfl (okE_cons rfl (okE_cons rfl (okE_cons rfl (okE_cons rfl (okE_cons rfl (okE_cons rfl (okE_cons rfl okE_nil))))))))))
                  · refine J.yl (y_move rfl rfl) rfl rfl rfl ?_
                    refine J.gyes (y_move rfl rfl) rfl rfl rfl rfl rfl rfl ?_
                    refine J.gyes (y_move rfl rfl) rfl rfl rfl rfl rfl rfl ?_
                    refine J.gyes (y_eq rfl rfl rfl) rfl rfl rfl rfl rfl rfl ?_
                    refine J.yl (y_pick rfl rfl (fun h => by cases h) (fun _ => rfl)) rfl rfl rfl ?_
                    refine J.nil ?_
                    refine againK23 (decide ((i : Int) = (la : Int)), ()) _ ⟨fun h => .inr (by have := of_decide_eq_true h; omega), fun h => decide_eq_true (by omega)⟩ (okE_cons rfl okE_nil) (okE_cons rfl (okE_cons rfl (okE_cons rfl (okE_cons rfl (okE_cons rfl (okE_cons rfl (okE_cons rfl (okE_cons rfl (okE_cons rfl (okE_cons rfl okE_nil))))))))))
                · obtain ⟨bb, uu⟩ := sK23
                  dsimp only at hK23 ⊢
                  obtain ⟨hbb1, hbb2⟩ := hK23
                  refine JQ.next hK22 ?_
                  refine JC.cond rfl (fun h8 => ?_) (fun h8 => ?_)
                  · have hR := hbb1 h8
                    have hcl2 : climb (up ((evn i la).1 / 2) ((evn i la).2 / 2)) (node x a) (p.drop (u + 1)) = climb (up i0 (n - 1)) leaf p := by
                      rw [← hkl, hd, up_R hl0 hR]; rfl
                    refine JC.seq fun K24 hK24 => ?_
                    refine JC.region ?_
                    refine J.yl (y_lbW 0 rfl Tb.ag30 Tb.sz30 (hcl _) rfl rfl) rfl rfl rfl ?_
                    refine J.yl (y_lbW 2 rfl Tb.ag30 Tb.sz30 (hcl _) rfl rfl) rfl rfl rfl ?_
                    refine J.callv rfl rfl rfl rfl Tb.cl105 rfl (node_spec x a) ?_
                    refine J.storeW 2 rfl rfl rfl rfl rfl rfl rfl Tb.sz30 (hcl _) (hcl _) (hc1 _) ?_
                    refine J.nil ?_
                    refine JQ.next hK24 ?_
                    refine JC.block ?_
                    refine JC.loopE (σ := Nat × Nat) (M := fun q => [(1, .int .i64 (q.1 : Int)), (11, .int .i64 (q.2 : Int))]) (kp := [(3, _), (5, _), (9, _), (12, _), (14, _), (32, _), (33, _), (34, _)]) (hkp := (okE_cons rfl (okE_cons rfl (okE_cons rfl (okE_cons rfl (okE_cons rfl (okE_cons rfl (okE_cons rfl (okE_cons rfl okE_nil))))))))) (Dc := fun _ => [.box g14 30 (hc x), .box g9 30 (hc r), .box g5 30 (hc (node x a))]) (H := fun _ => F) (Ψ := fun q => q.1 ≤ 5000 ∧ q.2 ≤ 5000 ∧ evn q.1 q.2 = evn i la) (μ := fun q => q.1) (i, la) ⟨by dsimp only; omega, by dsimp only; omega, rfl⟩ (okE_cons rfl (okE_cons rfl okE_nil)) (fun w h => h) (fun sK25 hK25 K25 againK25 => ?_)
                    obtain ⟨i1, la1⟩ := sK25
                    dsimp only at hK25 againK25 ⊢
                    obtain ⟨hi1, hla1, hev⟩ := hK25
                    refine JC.seq fun K26 hK26 => ?_
                    refine JC.seq fun K27 hK27 => ?_
                    refine JC.region ?_
                    refine J.yl (y_move rfl rfl) rfl rfl rfl ?_
                    refine J.yl (y_rem64 rfl rfl rfl (by omega)) rfl rfl rfl ?_
                    refine J.ylp (y_eq rfl rfl rfl) rfl rfl rfl (fun f1 => ?_) (fun f1 => ?_)
                    · refine J.yl (y_move rfl rfl) rfl rfl rfl ?_
                      refine J.gyes (y_move rfl rfl) rfl rfl rfl rfl rfl rfl ?_
                      refine J.gyes (y_gt rfl rfl rfl) rfl rfl rfl rfl rfl rfl ?_
                      refine J.yl (y_pick rfl rfl (fun _ => rfl) (fun h => by cases h)) rfl rfl rfl ?_
                      refine J.nil ?_
                      refine JQ.next hK27 ?_
                      refine JC.condp rfl (fun f2 => ?_) (fun f2 => ?_)
                      · refine JC.skip ?_
                        refine JQ.next hK26 ?_
                        refine JC.block ?_
                        refine JC.region ?_
                        refine J.yl (y_move rfl rfl) rfl rfl rfl ?_
                        refine J.yl (y_quo64 rfl rfl rfl (by omega)) rfl rfl rfl ?_
                        refine J.yl (y_move rfl rfl) rfl rfl rfl ?_
                        refine J.yl (y_quo64 rfl rfl rfl (by omega)) rfl rfl rfl ?_
                        refine J.yl (y_assign rfl rfl) rfl rfl rfl ?_
                        refine J.yl (y_assign rfl rfl) rfl rfl rfl ?_
                        refine J.nil ?_
                        refine JQ.block_normal ?_
                        refine againK25 (i1 / 2, la1 / 2) _ ⟨by dsimp only; omega, by dsimp only; omega, by dsimp only; rw [← evn_even (by omega)]; exact hev⟩ (by dsimp only; omega) (okE_cons (slotI (by dsimp only; omega)) (okE_cons (slotI (by dsimp only; omega)) okE_nil)) (okE_cons rfl (okE_cons rfl (okE_cons rfl (okE_cons rfl (okE_cons rfl (okE_cons rfl (okE_cons rfl (okE_cons rfl okE_nil))))))))
                      · have hev2 : (i1, la1) = evn i la := by rw [← hev, evn_stop (by omega)]
                        refine JC.exit ?_
                        refine JQ.then_exit (JQ.then_exit (JQ.block_hit (JQ.next hK21 ?_)))
                        refine JC.seq fun K28 hK28 => ?_
                        refine JC.region ?_
                        refine J.yl (y_move rfl rfl) rfl rfl rfl ?_
                        refine J.yl (y_quo64 rfl rfl rfl (by omega)) rfl rfl rfl ?_
                        refine J.yl (y_move rfl rfl) rfl rfl rfl ?_
                        refine J.yl (y_quo64 rfl rfl rfl (by omega)) rfl rfl rfl ?_
                        refine J.yl (y_assign rfl rfl) rfl rfl rfl ?_
                        refine J.yl (y_assign rfl rfl) rfl rfl rfl ?_
                        refine J.nil ?_
                        refine JQ.next hK28 ?_
                        refine JC.region ?_
                        refine J.yl (y_move rfl rfl) rfl rfl rfl ?_
                        refine J.yl (y_add64 rfl rfl rfl (by omega)) rfl rfl rfl ?_
                        refine J.yl (y_assign rfl rfl) rfl rfl rfl ?_
                        refine J.nil ?_
                        refine JQ.block_normal (JQ.next hK17 ?_)
                        refine JC.region ?_
                        refine J.yl (y_add64 rfl rfl rfl (by omega)) rfl rfl rfl ?_
                        refine J.yl (y_move rfl rfl) rfl rfl rfl ?_
                        refine J.nil ?_
                        refine JQ.drop ?_
                        refine againK14 (i1 / 2, la1 / 2, u + 1, node x a) _ ⟨by dsimp only; omega, by dsimp only; omega, by dsimp only; omega, by rw [← hev2] at hcl2; exact hcl2⟩ (by dsimp only; omega) (okE_cons (slotI (by dsimp only; omega)) (okE_cons (slotI (by dsimp only; omega)) (okE_cons (slotI (by dsimp only; omega)) (okE_cons (slotI (by dsimp only; omega)) okE_nil)))) (okE_cons rfl (okE_cons rfl (okE_cons rfl (okE_cons rfl (okE_cons rfl okE_nil)))))
                    · have hev2 : (i1, la1) = evn i la := by rw [← hev, evn_stop (by omega)]
                      refine J.yl (y_move rfl rfl) rfl rfl rfl ?_
                      refine J.gno (b := false) rfl rfl rfl rfl rfl rfl ?_
                      refine J.gno (b := false) rfl rfl rfl rfl rfl rfl ?_
                      refine J.yl (y_pick rfl rfl (fun h => by cases h) (fun _ => rfl)) rfl rfl rfl ?_
                      refine J.nil ?_
                      refine JQ.next hK27 ?_
                      refine JC.no rfl ?_
                      refine JC.exit ?_
                      refine JQ.then_exit (JQ.then_exit (JQ.block_hit (JQ.next hK21 ?_)))
                      refine JC.seq fun K29 hK29 => ?_
                      refine JC.region ?_
                      refine J.yl (y_move rfl rfl) rfl rfl rfl ?_
                      refine J.yl (y_quo64 rfl rfl rfl (by omega)) rfl rfl rfl ?_
                      refine J.yl (y_move rfl rfl) rfl rfl rfl ?_
                      refine J.yl (y_quo64 rfl rfl rfl (by omega)) rfl rfl rfl ?_
                      refine J.yl (y_assign rfl rfl) rfl rfl rfl ?_
                      refine J.yl (y_assign rfl rfl) rfl rfl rfl ?_
                      refine J.nil ?_
                      refine JQ.next hK29 ?_
                      refine JC.region ?_
                      refine J.yl (y_move rfl rfl) rfl rfl rfl ?_
                      refine J.yl (y_add64 rfl rfl rfl (by omega)) rfl rfl rfl ?_
                      refine J.yl (y_assign rfl rfl) rfl rfl rfl ?_
                      refine J.nil ?_
                      refine JQ.block_normal (JQ.next hK17 ?_)
                      refine JC.region ?_
                      refine J.yl (y_add64 rfl rfl rfl (by omega)) rfl rfl rfl ?_
                      refine J.yl (y_move rfl rfl) rfl rfl rfl ?_
                      refine J.nil ?_
                      refine JQ.drop ?_
                      refine againK14 (i1 / 2, la1 / 2, u + 1, node x a) _ ⟨by dsimp only; omega, by dsimp only; omega, by dsimp only; omega, by rw [← hev2] at hcl2; exact hcl2⟩ (by dsimp only; omega) (okE_cons (slotI (by dsimp only; omega)) (okE_cons (slotI (by dsimp only; omega)) (okE_cons (slotI (by dsimp only; omega)) (okE_cons (slotI (by dsimp only; omega)) okE_nil)))) (okE_cons rfl (okE_cons rfl (okE_cons rfl (okE_cons rfl (okE_cons rfl okE_nil)))))
                  · have hL : ¬ (i % 2 = 1 ∨ i = la) := fun h => by have := hbb2 h; rw [this] at h8; exact absurd h8 (by decide)
                    have hcl2 : climb (up (i / 2) (la / 2)) (node a x) (p.drop (u + 1)) = climb (up i0 (n - 1)) leaf p := by
                      rw [← hkl, hd, up_L hl0 hL]; rfl
                    refine JC.region ?_
                    refine J.yl (y_lbW 2 rfl Tb.ag30 Tb.sz30 (hcl _) rfl rfl) rfl rfl rfl ?_
                    refine J.yl (y_lbW 0 rfl Tb.ag30 Tb.sz30 (hcl _) rfl rfl) rfl rfl rfl ?_
                    refine J.callv rfl rfl rfl rfl Tb.cl105 rfl (node_spec a x) ?_
                    refine J.storeW 2 rfl rfl rfl rfl rfl rfl rfl Tb.sz30 (hcl _) (hcl _) (hc1 _) ?_
                    refine J.nil ?_
                    refine JQ.next hK21 ?_
                    refine JC.seq fun K30 hK30 => ?_
                    refine JC.region ?_
                    refine J.yl (y_move rfl rfl) rfl rfl rfl ?_
                    refine J.yl (y_quo64 rfl rfl rfl (by omega)) rfl rfl rfl ?_
                    refine J.yl (y_move rfl rfl) rfl rfl rfl ?_
                    refine J.yl (y_quo64 rfl rfl rfl (by omega)) rfl rfl rfl ?_
                    refine J.yl (y_assign rfl rfl) rfl rfl rfl ?_
                    refine J.yl (y_assign rfl rfl) rfl rfl rfl ?_
                    refine J.nil ?_
                    refine JQ.next hK30 ?_
                    refine JC.region ?_
                    refine J.yl (y_move rfl rfl) rfl rfl rfl ?_
                    refine J.yl (y_add64 rfl rfl rfl (by omega)) rfl rfl rfl ?_
                    refine J.yl (y_assign rfl rfl) rfl rfl rfl ?_
                    refine J.nil ?_
                    refine JQ.block_normal (JQ.next hK17 ?_)
                    refine JC.region ?_
                    refine J.yl (y_add64 rfl rfl rfl (by omega)) rfl rfl rfl ?_
                    refine J.yl (y_move rfl rfl) rfl rfl rfl ?_
                    refine J.nil ?_
                    refine JQ.drop ?_
                    refine againK14 (i / 2, la / 2, u + 1, node a x) _ ⟨by dsimp only; omega, by dsimp only; omega, by dsimp only; omega, hcl2⟩ (by dsimp only; omega) (okE_cons (slotI (by dsimp only; omega)) (okE_cons (slotI (by dsimp only; omega)) (okE_cons (slotI (by dsimp only; omega)) (okE_cons (slotI (by dsimp only; omega)) okE_nil)))) (okE_cons rfl (okE_cons rfl (okE_cons rfl (okE_cons rfl (okE_cons rfl okE_nil)))))
            · refine JC.exit ?_
              refine JQ.then_exit (JQ.then_exit (JQ.block_hit ?_))
              refine againK13 (la, u, a, i) _ ⟨by dsimp only; omega, .inr (by dsimp only; omega), hkl⟩ (okE_cons rfl (okE_cons rfl okE_nil)) (okE_cons rfl (okE_cons rfl (okE_cons rfl okE_nil)))
          · obtain ⟨la, u, a, i⟩ := sK13
            dsimp only at hK13 ⊢
            obtain ⟨hu, hla, hkl⟩ := hK13
            refine JQ.next hK11 ?_
            refine JC.seq fun K31 hK31 => ?_
            refine JC.seq fun K32 hK32 => ?_
            refine JC.region ?_
            refine J.yl (y_move rfl rfl) rfl rfl rfl ?_
            have hend := climb_end i la u j a r p hj hu hla
            rw [hkl] at hend
            have hv0 : la = 0 ∧ u = j ∧ a = r → pchk leaf i0 n p r = 0 := fun h => by
              rw [pchk, if_neg (by omega), Int.toNat_natCast, Int.toNat_natCast, if_pos (hend.2 h)]
            have hv80 : ¬ (la = 0 ∧ u = j ∧ a = r) → pchk leaf i0 n p r = 80 := fun h => by
              rw [pchk, if_neg (by omega), Int.toNat_natCast, Int.toNat_natCast, if_neg (fun e => h (hend.1 e))]
            refine J.yln (y_ne rfl rfl rfl) rfl rfl rfl (fun f1 => ?_) (fun f1 => ?_)
            · have hv := hv80 (by omega)
              refine J.yl (y_move rfl rfl) rfl rfl rfl ?_
              refine J.gno (b := true) rfl rfl rfl rfl rfl rfl ?_
              refine J.gno (b := true) rfl rfl rfl rfl rfl rfl ?_
              refine J.gno (b := true) rfl rfl rfl rfl rfl rfl ?_
              refine J.gno (b := true) rfl rfl rfl rfl rfl rfl ?_
              refine J.yl (y_pick rfl rfl (fun _ => rfl) (fun h => by cases h)) rfl rfl rfl ?_
              refine J.yl (y_move rfl rfl) rfl rfl rfl ?_
              refine J.gno (b := true) rfl rfl rfl rfl rfl rfl ?_
              refine J.gno (b := true) rfl rfl rfl rfl rfl rfl ?_
              refine J.gno (b := true) rfl rfl rfl rfl rfl rfl ?_
              refine J.yl (y_pick rfl rfl (fun _ => rfl) (fun h => by cases h)) rfl rfl rfl ?_
              refine J.nil ?_
              refine JQ.next hK32 ?_
              refine JC.yes rfl ?_
              refine JC.seq fun K33 hK33 => ?_
              refine JC.region ?_
              refine J.yl (y_assign rfl rfl) rfl rfl rfl ?_
              refine J.nil ?_
              refine JQ.next hK33 ?_
              refine JC.ret ?_
              refine JQ.then_ret (JQ.scope_ret ?_)
              exact ret1 rfl (r_tmp rfl) fun w hs => by rw [hv]; exact Post.pure hs
            · refine J.yl (y_move rfl rfl) rfl rfl rfl ?_
              refine J.gyes (y_move rfl rfl) rfl rfl rfl rfl rfl rfl ?_
              refine J.gyes (y_move rfl rfl) rfl rfl rfl rfl rfl rfl ?_
              refine J.gyes (y_len rfl Tryd.underlying22 rfl) rfl rfl rfl rfl rfl rfl ?_
              refine J.ynG (y_ne rfl rfl rfl) rfl rfl rfl rfl rfl rfl (fun f2 => ?_) (fun f2 => ?_)
              · have hv := hv80 (by omega)
                refine J.yl (y_pick rfl rfl (fun h => by cases h) (fun _ => rfl)) rfl rfl rfl ?_
                refine J.yl (y_move rfl rfl) rfl rfl rfl ?_
                refine J.gno (b := true) rfl rfl rfl rfl rfl rfl ?_
                refine J.gno (b := true) rfl rfl rfl rfl rfl rfl ?_
                refine J.gno (b := true) rfl rfl rfl rfl rfl rfl ?_
                refine J.yl (y_pick rfl rfl (fun _ => rfl) (fun h => by cases h)) rfl rfl rfl ?_
                refine J.nil ?_
                refine JQ.next hK32 ?_
                refine JC.yes rfl ?_
                refine JC.seq fun K34 hK34 => ?_
                refine JC.region ?_
                refine J.yl (y_assign rfl rfl) rfl rfl rfl ?_
                refine J.nil ?_
                refine JQ.next hK34 ?_
                refine JC.ret ?_
                refine JQ.then_ret (JQ.scope_ret ?_)
                exact ret1 rfl (r_tmp rfl) fun w hs => by rw [hv]; exact Post.pure hs
              · refine J.yl (y_pick rfl rfl (fun h => by cases h) (fun _ => rfl)) rfl rfl rfl ?_
                refine J.yl (y_move rfl rfl) rfl rfl rfl ?_
                refine J.gyes (y_lbW 1 rfl Tb.ag30 Tb.sz30 (hcl _) rfl rfl) rfl rfl rfl rfl rfl rfl ?_
                refine J.gyes (y_lbW 0 rfl Tb.ag30 Tb.sz30 (hcl _) rfl rfl) rfl rfl rfl rfl rfl rfl ?_
                refine J.gyes (y_hne rfl Tryd.underlying30 Tryd.underlying5 Tb.ag5 Tb.sz5 Tb.eg30 rfl rfl) rfl rfl rfl rfl rfl rfl ?_
                refine J.yl (y_pick rfl rfl (fun h => by cases h) (fun _ => rfl)) rfl rfl rfl ?_
                refine J.nil ?_
                refine JQ.next hK32 ?_
                refine JC.condn rfl (fun f3 => ?_) (fun f3 => ?_)
                · have hv := hv80 (fun e => f3 e.2.2)
                  refine JC.seq fun K35 hK35 => ?_
                  refine JC.region ?_
                  refine J.yl (y_assign rfl rfl) rfl rfl rfl ?_
                  refine J.nil ?_
                  refine JQ.next hK35 ?_
                  refine JC.ret ?_
                  refine JQ.then_ret (JQ.scope_ret ?_)
                  exact ret1 rfl (r_tmp rfl) fun w hs => by rw [hv]; exact Post.pure hs
                · have hv := hv0 ⟨by omega, by omega, f3⟩
                  refine JC.skip ?_
                  refine JQ.next hK31 ?_
                  refine JC.seq fun K36 hK36 => ?_
                  refine JC.region ?_
                  refine J.yl (y_assign rfl rfl) rfl rfl rfl ?_
                  refine J.nil ?_
                  refine JQ.next hK36 ?_
                  refine JC.ret ?_
                  refine JQ.scope_ret ?_
                  exact ret1 rfl (r_tmp rfl) fun w hs => by rw [hv]; exact Post.pure hs
end Go.Proofs.YtjkfeonbioccmaaDoor
