/- Speculum proofs: ProofsBack, walked: of any leaves, and each beginning of them, the proof is checked; one of another length is not; it is short. -/
import Derived.Test.YtjkfeonbioccmaaDoorFg
namespace Go.Proofs.YtjkfeonbioccmaaDoor
open Go Go.Sx Go.RowKit
set_option linter.unusedVariables false
set_option linter.unusedSimpArgs false
set_option maxRecDepth 100000
set_option maxHeartbeats 2000000
variable {Gl F : World → Prop}
theorem law_ProofsBack (l : List H) (h : H) (A : Option Addr) (n k : Nat) (hn : l.length = n) (hk : n ≤ k) (hA : ∀ w, F w → Sl w A (hcs l)) : PureFn Tryd.prog Gs 5 [.slice A n k, hv h] F (.bool true) := by
  refine FnSpec.intro Tryd.func5 rfl Tryd.ntmps5 rfl fun X M w => ?_
  refine JC.seq fun K1 hK1 => ?_
  refine JC.region ?_
  refine J.box rfl rfl rfl rfl rfl rfl fun g3 => ?_
  refine J.yl (y_assign rfl rfl) rfl rfl rfl ?_
  refine J.nil ?_
  refine JQ.next hK1 ?_
  refine JC.seq fun K2 hK2 => ?_
  refine JC.seq fun K3 hK3 => ?_
  refine JC.region ?_
  refine J.yl (y_move rfl rfl) rfl rfl rfl ?_
  refine J.yl (y_len rfl Tryd.underlying22 rfl) rfl rfl rfl ?_
  refine J.yl (y_gt rfl rfl rfl) rfl rfl rfl ?_
  refine J.nil ?_
  refine JQ.next hK3 ?_
  refine JC.condp rfl (fun h1 => ?_) (fun h1 => ?_)
  · refine JC.seq fun K4 hK4 => ?_
    refine JC.region ?_
    refine J.callv rfl rfl rfl rfl Tb.cl23 rfl (proved_fn) ?_
    refine J.yl (y_assign rfl rfl) rfl rfl rfl ?_
    refine J.nil ?_
    refine JQ.next hK4 ?_
    refine JC.ret ?_
    refine JQ.then_ret ?_
    exact ret1 rfl (r_tmp rfl) fun w hs => Post.pure hs
  · refine JC.skip ?_
    refine JQ.next hK2 ?_
    refine JC.seq fun K5 hK5 => ?_
    refine JC.region ?_
    refine J.yl (y_move rfl rfl) rfl rfl rfl ?_
    refine J.callv rfl rfl rfl rfl Tb.cl30 rfl (root_spec l A n k hn hk (by omega) (fun w h => hA w h.1)) ?_
    refine J.alloc rfl rfl rfl rfl Tb.zz30 rfl fun g5 => ?_
    refine J.storeW 0 rfl rfl rfl rfl rfl rfl rfl Tb.sz30 (hcl _) (hcl _) (hc1 _) ?_
    refine J.nil ?_
    refine JQ.next hK5 ?_
    refine JC.seq fun K6 hK6 => ?_
    refine JC.seq fun K7 hK7 => ?_
    refine JC.region ?_
    refine J.yl (y_assign rfl rfl) rfl rfl rfl ?_
    refine J.nil ?_
    refine JQ.next hK7 ?_
    refine JC.block ?_
    refine JC.loopE (σ := Nat) (M := fun q => [(6, .int .i64 (q : Int))]) (kp := [(0, _), (3, _), (5, _)]) (hkp := (okE_cons rfl (okE_cons rfl (okE_cons rfl okE_nil)))) (Dc := fun _ => [.box g5 30 (hc (root l)), .box g3 30 (hc h)]) (H := fun _ => F) (Ψ := fun q => q ≤ n + 1) (μ := fun q => n + 1 - q) 0 (by omega) (okE_cons rfl okE_nil) (fun w h => h) (fun m hm K8 againK8 => ?_)
    refine JC.seq fun K9 hK9 => ?_
    refine JC.seq fun K10 hK10 => ?_
    refine JC.region ?_
    refine J.yl (y_move rfl rfl) rfl rfl rfl ?_
    refine J.yl (y_move rfl rfl) rfl rfl rfl ?_
    refine J.yl (y_len rfl Tryd.underlying22 rfl) rfl rfl rfl ?_
    refine J.yl (y_le rfl rfl rfl) rfl rfl rfl ?_
    refine J.nil ?_
    refine JQ.next hK10 ?_
    refine JC.condp rfl (fun h2 => ?_) (fun h2 => ?_)
    · have hm : m ≤ n := by omega
      have hE : prfE l (m : Int) = 0 := if_neg (by omega)
      have hle := prf_le l (m : Int) 6 (by rw [hn]; omega)
      have hroot := chk_prf l m (by omega) (by omega)
      rw [hn] at hroot
      have hoth : ∀ q : List H, q.length ≠ (prf l (m : Int)).length → chk m n (root (l.take m)) (root l) q = 80 := fun q hq => chk_other l m n _ _ q (by omega) hn (by omega) hq
      refine JC.skip ?_
      refine JQ.next hK9 ?_
      refine JC.seq fun K11 hK11 => ?_
      refine JC.block ?_
      refine JC.seq fun K12 hK12 => ?_
      refine JC.region ?_
      refine J.yl (y_move rfl rfl) rfl rfl rfl ?_
      refine J.yl (y_move rfl rfl) rfl rfl rfl ?_
      generalize hp : prf l (m : Int) = p at hle hroot hoth
      refine J.callR (Cin := []) rfl rfl rfl rfl Tb.cl24 rfl rfl (proof_fnE l (m : Int) p 0 hp hE A n k hn hk (by omega) (fun w h => hA w h.1)) ?_
      rintro ⟨A1, k1⟩ hk1
      refine J.yl (y_move rfl rfl) rfl rfl rfl ?_
      refine J.yl (y_extract rfl rfl rfl) rfl rfl rfl ?_
      refine J.yl (y_extract rfl rfl rfl) rfl rfl rfl ?_
      refine J.yl (y_assign rfl rfl) rfl rfl rfl ?_
      refine J.yl (y_assign rfl rfl) rfl rfl rfl ?_
      refine J.nil ?_
      refine JQ.next hK12 ?_
      refine JC.seq fun K13 hK13 => ?_
      refine JC.region ?_
      refine J.yl (y_move rfl rfl) rfl rfl rfl ?_
      refine J.yl (y_move rfl rfl) rfl rfl rfl ?_
      refine J.yl (y_cuttoN m rfl Tryd.underlying22 Tb.sz30 rfl rfl rfl (by omega)) rfl rfl rfl ?_
      refine J.callv rfl rfl rfl rfl Tb.cl30 rfl (root_spec (l.take m) A m k (by rw [List.length_take]; omega) (by omega) (by omega) (fun w h => (hA w h.1).htake m)) ?_
      refine J.alloc rfl rfl rfl rfl Tb.zz30 rfl fun g9 => ?_
      refine J.storeW 0 rfl rfl rfl rfl rfl rfl rfl Tb.sz30 (hcl _) (hcl _) (hc1 _) ?_
      refine J.nil ?_
      refine JQ.next hK13 ?_
      refine JC.seq fun K14 hK14 => ?_
      refine JC.seq fun K15 hK15 => ?_
      refine JC.region ?_
      refine J.yl (y_move rfl rfl) rfl rfl rfl ?_
      refine J.yl ((y_ne rfl rfl rfl).to rfl) rfl rfl rfl ?_
      refine J.yl (y_move rfl rfl) rfl rfl rfl ?_
      refine J.gyes (y_move rfl rfl) rfl rfl rfl rfl rfl rfl ?_
      refine J.gyes (y_len rfl Tryd.underlying22 rfl) rfl rfl rfl rfl rfl rfl ?_
      refine J.gyes ((y_gt rfl rfl rfl).to (by rw [decide_eq_false (by omega)])) rfl rfl rfl rfl rfl rfl ?_
      refine J.yl (y_pick rfl rfl (fun h => by cases h) (fun _ => rfl)) rfl rfl rfl ?_
      refine J.yl (y_move rfl rfl) rfl rfl rfl ?_
      refine J.gyes (y_move rfl rfl) rfl rfl rfl rfl rfl rfl ?_
      refine J.gyes (y_move rfl rfl) rfl rfl rfl rfl rfl rfl ?_
      refine J.gyes (y_len rfl Tryd.underlying22 rfl) rfl rfl rfl rfl rfl rfl ?_
      refine J.gyes (y_lbW 0 rfl Tb.ag30 Tb.sz30 (hcl _) rfl rfl) rfl rfl rfl rfl rfl rfl ?_
      refine J.gyes (y_lbW 2 rfl Tb.ag30 Tb.sz30 (hcl _) rfl rfl) rfl rfl rfl rfl rfl rfl ?_
      refine J.gyes (y_move rfl rfl) rfl rfl rfl rfl rfl rfl ?_
      refine J.gon rfl rfl rfl rfl ?_
      refine J.callv rfl rfl rfl rfl Tb.cl27 rfl ((check_fn m n (root (l.take m)) (root l) p A1 p.length k1 rfl hk1 (fun w h => ckrow 1 rfl h)).to (by rw [hroot])) ?_
      refine J.gyes (y_ne rfl rfl rfl) rfl rfl rfl rfl rfl rfl ?_
      refine J.yl (y_pick rfl rfl (fun h => by cases h) (fun _ => rfl)) rfl rfl rfl ?_
      refine J.nil ?_
      refine JQ.next hK15 ?_
      refine JC.condn rfl (fun h3 => ?_) (fun h3 => ?_)
      · exact absurd rfl h3
      · refine JC.skip ?_
        refine JQ.next hK14 ?_
        refine JC.seq fun K16 hK16 => ?_
        refine JC.seq fun K17 hK17 => ?_
        refine JC.cutE (σ := Unit) (M := fun _ => [(60, .bool false)]) (kp := [(0, _), (3, _), (5, _), (6, _), (7, _), (9, _)]) (hkp := (okE_cons rfl (okE_cons rfl (okE_cons rfl (okE_cons rfl (okE_cons rfl (okE_cons rfl okE_nil))))))) (Dc := fun _ => [.box g9 30 (hc (root (l.take m))), .row (.slice A1 p.length k1) 30 32 p.length (hcs p), .box g5 30 (hc (root l)), .box g3 30 (hc h)]) (H := fun _ => F) (Ψ := fun _ => True) (fun K18 againK18 => ?_) (fun sK18 hK18 => ?_)
        refine JC.drawM [true, true, true, true] (by kernel_rfl) ?_
        refine D.take 0 (y_move rfl rfl) rfl rfl rfl rfl (by kernel_rfl) (by kernel_rfl) (by kernel_rfl) (PQ.next (PQ.next (PQ.next (PQ.block (PQ.next (PQ.next (PQ.block (PQ.next PQ.body)))))))) ?_
        refine D.take 1 (y_move rfl rfl) rfl rfl rfl rfl (by kernel_rfl) (by kernel_rfl) (by kernel_rfl) (PQ.next (PQ.next (PQ.next (PQ.block (PQ.next (PQ.next (PQ.block (PQ.next PQ.body)))))))) ?_
        refine D.take 2 (y_len rfl Tryd.underlying22 rfl) rfl rfl rfl rfl (by kernel_rfl) (by kernel_rfl) (by kernel_rfl) (PQ.next (PQ.next (PQ.next (PQ.block (PQ.next (PQ.next (PQ.block (PQ.next PQ.body)))))))) ?_
        refine D.take 3 (y_lbW 0 rfl Tb.ag30 Tb.sz30 (hcl _) rfl rfl) rfl rfl rfl rfl (by kernel_rfl) (by kernel_rfl) (by kernel_rfl) (PQ.next (PQ.next (PQ.next (PQ.block (PQ.next (PQ.next (PQ.block (PQ.next PQ.body)))))))) ?_
        refine D.take 4 (y_lbW 2 rfl Tb.ag30 Tb.sz30 (hcl _) rfl rfl) rfl rfl rfl rfl (by kernel_rfl) (by kernel_rfl) (by kernel_rfl) (PQ.next (PQ.next (PQ.next (PQ.block (PQ.next (PQ.next (PQ.block (PQ.next PQ.body)))))))) ?_
        refine D.take 5 (y_move rfl rfl) rfl rfl rfl rfl (by kernel_rfl) (by kernel_rfl) (by kernel_rfl) (PQ.next (PQ.next (PQ.next (PQ.block (PQ.next (PQ.next (PQ.block (PQ.next PQ.body)))))))) ?_
        refine D.take 7 (y_lbW 3 rfl Tb.ag30 Tb.sz30 (hcl _) rfl rfl) rfl rfl rfl rfl (by kernel_rfl) (by kernel_rfl) (by kernel_rfl) (PQ.next (PQ.next (PQ.next (PQ.block (PQ.next (PQ.next (PQ.block (PQ.next PQ.body)))))))) ?_
        · have hk1 : p.length ≤ k1 := hk1
          refine D.two 6 8 (by kernel_rfl) ?_ ?_
          · refine DS.ofJ rfl fun KhK20 hK20 => ?_
            refine J.appNil (hcs p) rfl rfl rfl rfl rfl rfl Tryd.underlying22 Tb.zz30 Tb.sz30 Tb.by30 rfl (by decide) (length_hcs p) (fun w hs => strow hs 1 rfl) (hcs1 p) (by omega) (by decide) fun A2 k2 hk2 => ?_
            refine J.nil ?_
            refine hK20 _ _ _ (fun w hs => hs.mask [false, true, true, true, true]) ?_
            refine D.ofJ 8 (by kernel_rfl) rfl fun KhK21 hK21 => ?_
            refine J.bs1 rfl rfl rfl rfl rfl Tryd.underlying22 Tb.zz30 Tb.sz30 rfl (by decide) rfl (hcl _) fun g57 => ?_
            refine J.nil ?_
            refine hK21 _ _ _ (fun w hs => hs.mask [false, false, true, true, true, true]) ?_
            refine D.ofJ 9 (by kernel_rfl) rfl fun KhK22 hK22 => ?_
            refine J.append 1 rfl rfl rfl rfl rfl rfl Tryd.underlying22 Tb.zz30 Tb.sz30 Tb.by30 rfl (by decide) rfl (by rw [hcl]) (fun w hs => .inr ⟨rfl, At.box (hs.get (i := 0) rfl)⟩) (hc1 _) (by omega) (by decide) (show _ = (p ++ [h]).length by simp) (show _ = hcs (p ++ [h]) by rw [hcs_append, hcs_one]) fun A k hAx hkx => ?_
            refine J.drop ?_
            refine J.nil ?_
            refine hK22 _ _ _ (fun w hs => hs.mask [false, true, true, true, true]) ?_
            refine D.ofJ 10 (by kernel_rfl) rfl fun KhK25 hK25 => ?_
            refine J.callv rfl rfl rfl rfl Tb.cl27 rfl ((check_fn m n (root (l.take m)) (root l) (p ++ [h]) _ (p ++ [h]).length _ rfl hkx (fun w h' => ckrow 0 rfl h')).to (by rw [hoth _ (by simp)])) ?_
            refine J.nil ?_
            refine hK25 _ _ _ (fun w hs => hs.mask [false, true, true, true, true]) ?_
            refine D.take 11 (y_ne rfl rfl rfl) rfl rfl rfl rfl (by kernel_rfl) (by kernel_rfl) (by kernel_rfl) (PQ.next (PQ.next (PQ.next (PQ.block (PQ.next (PQ.next (PQ.block (PQ.next PQ.body)))))))) ?_
            refine D.done (by kernel_rfl) ?_
            refine JQ.drop ?_
            refine againK18 () _ trivial (okE_cons rfl okE_nil) (okE_cons rfl (okE_cons rfl (okE_cons rfl (okE_cons rfl (okE_cons rfl (okE_cons rfl okE_nil))))))
          · refine DS.ofJ rfl fun KhK26 hK26 => ?_
            refine J.bs1 rfl rfl rfl rfl rfl Tryd.underlying22 Tb.zz30 Tb.sz30 rfl (by decide) rfl (hcl _) fun g57 => ?_
            refine J.nil ?_
            refine hK26 _ _ _ (fun w hs => hs.mask [false, true, true, true, true]) ?_
            refine D.ofJ 6 (by kernel_rfl) rfl fun KhK28 hK28 => ?_
            refine J.appNil (hcs p) rfl rfl rfl rfl rfl rfl Tryd.underlying22 Tb.zz30 Tb.sz30 Tb.by30 rfl (by decide) (length_hcs p) (fun w hs => strow hs 2 rfl) (hcs1 p) (by omega) (by decide) fun A2 k2 hk2 => ?_
            refine J.nil ?_
            refine hK28 _ _ _ (fun w hs => hs.mask [false, false, true, true, true, true]) ?_
            refine D.front 1 rfl ?_
            refine D.ofJ 9 (by kernel_rfl) rfl fun KhK30 hK30 => ?_
            refine J.append 1 rfl rfl rfl rfl rfl rfl Tryd.underlying22 Tb.zz30 Tb.sz30 Tb.by30 rfl (by decide) rfl (by rw [hcl]) (fun w hs => .inr ⟨rfl, At.box (hs.get (i := 0) rfl)⟩) (hc1 _) (by omega) (by decide) (show _ = (p ++ [h]).length by simp) (show _ = hcs (p ++ [h]) by rw [hcs_append, hcs_one]) fun A k hAx hkx => ?_
            refine J.drop ?_
            refine J.nil ?_
            refine hK30 _ _ _ (fun w hs => hs.mask [false, true, true, true, true]) ?_
            refine D.ofJ 10 (by kernel_rfl) rfl fun KhK33 hK33 => ?_
            refine J.callv rfl rfl rfl rfl Tb.cl27 rfl ((check_fn m n (root (l.take m)) (root l) (p ++ [h]) _ (p ++ [h]).length _ rfl hkx (fun w h' => ckrow 0 rfl h')).to (by rw [hoth _ (by simp)])) ?_
            refine J.nil ?_
            refine hK33 _ _ _ (fun w hs => hs.mask [false, true, true, true, true]) ?_
            refine D.take 11 (y_ne rfl rfl rfl) rfl rfl rfl rfl (by kernel_rfl) (by kernel_rfl) (by kernel_rfl) (PQ.next (PQ.next (PQ.next (PQ.block (PQ.next (PQ.next (PQ.block (PQ.next PQ.body)))))))) ?_
            refine D.done (by kernel_rfl) ?_
            refine JQ.drop ?_
            refine againK18 () _ trivial (okE_cons rfl okE_nil) (okE_cons rfl (okE_cons rfl (okE_cons rfl (okE_cons rfl (okE_cons rfl (okE_cons rfl okE_nil))))))
        · obtain ⟨⟩ := sK18
          dsimp only at hK18 ⊢
          obtain _ := hK18
          refine JQ.next hK17 ?_
          refine JC.no rfl ?_
          refine JC.skip ?_
          refine JQ.next hK16 ?_
          refine JC.seq fun K34 hK34 => ?_
          refine JC.drawM [true, true, true, true] (by kernel_rfl) ?_
          refine D.take 0 (y_move rfl rfl) rfl rfl rfl rfl (by kernel_rfl) (by kernel_rfl) (by kernel_rfl) (PQ.next (PQ.block (PQ.next (PQ.next (PQ.block (PQ.next PQ.body)))))) ?_
          refine D.take 1 (y_len rfl Tryd.underlying22 rfl) rfl rfl rfl rfl (by kernel_rfl) (by kernel_rfl) (by kernel_rfl) (PQ.next (PQ.block (PQ.next (PQ.next (PQ.block (PQ.next PQ.body)))))) ?_
          have hk1 : p.length ≤ k1 := hk1
          refine D.takep 2 (y_gt rfl rfl rfl) rfl rfl rfl rfl (by kernel_rfl) (by kernel_rfl) (by kernel_rfl) (PQ.next (PQ.block (PQ.next (PQ.next (PQ.block (PQ.next PQ.body)))))) (fun h4 => ?_) (fun h4 => ?_)
          · refine D.take 3 (y_move rfl rfl) rfl rfl rfl rfl (by kernel_rfl) (by kernel_rfl) (by kernel_rfl) (PQ.next (PQ.block (PQ.next (PQ.next (PQ.block (PQ.next PQ.body)))))) ?_
            refine D.takeG 4 (y_move rfl rfl) rfl rfl rfl rfl rfl rfl rfl (by kernel_rfl) (by kernel_rfl) (by kernel_rfl) (PQ.next (PQ.block (PQ.next (PQ.next (PQ.block (PQ.next PQ.body)))))) ?_
            refine D.takeG 5 (y_move rfl rfl) rfl rfl rfl rfl rfl rfl rfl (by kernel_rfl) (by kernel_rfl) (by kernel_rfl) (PQ.next (PQ.block (PQ.next (PQ.next (PQ.block (PQ.next PQ.body)))))) ?_
            refine D.takeG 6 (y_len rfl Tryd.underlying22 rfl) rfl rfl rfl rfl rfl rfl rfl (by kernel_rfl) (by kernel_rfl) (by kernel_rfl) (PQ.next (PQ.block (PQ.next (PQ.next (PQ.block (PQ.next PQ.body)))))) ?_
            refine D.takeG 7 (y_lbW 0 rfl Tb.ag30 Tb.sz30 (hcl _) rfl rfl) rfl rfl rfl rfl rfl rfl rfl (by kernel_rfl) (by kernel_rfl) (by kernel_rfl) (PQ.next (PQ.block (PQ.next (PQ.next (PQ.block (PQ.next PQ.body)))))) ?_
            refine D.takeG 8 (y_lbW 2 rfl Tb.ag30 Tb.sz30 (hcl _) rfl rfl) rfl rfl rfl rfl rfl rfl rfl (by kernel_rfl) (by kernel_rfl) (by kernel_rfl) (PQ.next (PQ.block (PQ.next (PQ.next (PQ.block (PQ.next PQ.body)))))) ?_
            refine D.takeG 9 (y_move rfl rfl) rfl rfl rfl rfl rfl rfl rfl (by kernel_rfl) (by kernel_rfl) (by kernel_rfl) (PQ.next (PQ.block (PQ.next (PQ.next (PQ.block (PQ.next PQ.body)))))) ?_
            refine D.takeG 10 (y_cutfromN 1 rfl Tryd.underlying22 Tb.sz30 rfl rfl rfl (by omega)) rfl rfl rfl rfl rfl rfl rfl (by kernel_rfl) (by kernel_rfl) (by kernel_rfl) (PQ.next (PQ.block (PQ.next (PQ.next (PQ.block (PQ.next PQ.body)))))) ?_
            refine D.ofJ 11 (by kernel_rfl) rfl fun KhK36 hK36 => ?_
            refine J.gon rfl rfl rfl rfl ?_
            refine J.callv rfl rfl rfl rfl Tb.cl27 rfl ((check_fn m n (root (l.take m)) (root l) (p.drop 1) (cutA A1 k1 1 32) (p.length - 1) (k1 - 1) (by rw [List.length_drop]) (by omega) (fun w h' => (ckrow 1 rfl h' : Sl w A1 (hcs p)).hdrop 1 k1 hk1 (by omega))).to (by rw [hoth _ (by rw [List.length_drop]; omega)])) ?_
            refine J.nil ?_
            refine hK36 _ _ _ (fun w hs => hs.mask [true, true, true, true]) ?_
            refine D.takeG 12 ((y_ne rfl rfl rfl).to rfl) rfl rfl rfl rfl rfl rfl rfl (by kernel_rfl) (by kernel_rfl) (by kernel_rfl) (PQ.next (PQ.block (PQ.next (PQ.next (PQ.block (PQ.next PQ.body)))))) ?_
            refine D.takeG 13 (y_move rfl rfl) rfl rfl rfl rfl rfl rfl rfl (by kernel_rfl) (by kernel_rfl) (by kernel_rfl) (PQ.next (PQ.block (PQ.next (PQ.next (PQ.block (PQ.next PQ.body)))))) ?_
            refine D.takeG 14 (y_move rfl rfl) rfl rfl rfl rfl rfl rfl rfl (by kernel_rfl) (by kernel_rfl) (by kernel_rfl) (PQ.next (PQ.block (PQ.next (PQ.next (PQ.block (PQ.next PQ.body)))))) ?_
            refine D.takeG 15 (y_move rfl rfl) rfl rfl rfl rfl rfl rfl rfl (by kernel_rfl) (by kernel_rfl) (by kernel_rfl) (PQ.next (PQ.block (PQ.next (PQ.next (PQ.block (PQ.next PQ.body)))))) ?_
            refine D.takeG 16 (y_len rfl Tryd.underlying22 rfl) rfl rfl rfl rfl rfl rfl rfl (by kernel_rfl) (by kernel_rfl) (by kernel_rfl) (PQ.next (PQ.block (PQ.next (PQ.next (PQ.block (PQ.next PQ.body)))))) ?_
            refine D.takeG 17 (y_lbW 0 rfl Tb.ag30 Tb.sz30 (hcl _) rfl rfl) rfl rfl rfl rfl rfl rfl rfl (by kernel_rfl) (by kernel_rfl) (by kernel_rfl) (PQ.next (PQ.block (PQ.next (PQ.next (PQ.block (PQ.next PQ.body)))))) ?_
            refine D.takeG 18 (y_lbW 2 rfl Tb.ag30 Tb.sz30 (hcl _) rfl rfl) rfl rfl rfl rfl rfl rfl rfl (by kernel_rfl) (by kernel_rfl) (by kernel_rfl) (PQ.next (PQ.block (PQ.next (PQ.next (PQ.block (PQ.next PQ.body)))))) ?_
            refine D.takeG 19 (y_move rfl rfl) rfl rfl rfl rfl rfl rfl rfl (by kernel_rfl) (by kernel_rfl) (by kernel_rfl) (PQ.next (PQ.block (PQ.next (PQ.next (PQ.block (PQ.next PQ.body)))))) ?_
            refine D.takeG 20 (y_move rfl rfl) rfl rfl rfl rfl rfl rfl rfl (by kernel_rfl) (by kernel_rfl) (by kernel_rfl) (PQ.next (PQ.block (PQ.next (PQ.next (PQ.block (PQ.next PQ.body)))))) ?_
            refine D.takeG 21 (y_len rfl Tryd.underlying22 rfl) rfl rfl rfl rfl rfl rfl rfl (by kernel_rfl) (by kernel_rfl) (by kernel_rfl) (PQ.next (PQ.block (PQ.next (PQ.next (PQ.block (PQ.next PQ.body)))))) ?_
            refine D.takeG 22 (y_sub64 rfl rfl rfl (by omega)) rfl rfl rfl rfl rfl rfl rfl (by kernel_rfl) (by kernel_rfl) (by kernel_rfl) (PQ.next (PQ.block (PQ.next (PQ.next (PQ.block (PQ.next PQ.body)))))) ?_
            refine D.takeG 23 (y_cuttoN (p.length - 1) rfl Tryd.underlying22 Tb.sz30 rfl rfl (by omega) (by omega)) rfl rfl rfl rfl rfl rfl rfl (by kernel_rfl) (by kernel_rfl) (by kernel_rfl) (PQ.next (PQ.block (PQ.next (PQ.next (PQ.block (PQ.next PQ.body)))))) ?_
            refine D.ofJ 24 (by kernel_rfl) rfl fun KhK38 hK38 => ?_
            refine J.gon rfl rfl rfl rfl ?_
            refine J.callv rfl rfl rfl rfl Tb.cl27 rfl ((check_fn m n (root (l.take m)) (root l) (p.take (p.length - 1)) A1 (p.length - 1) k1 (by rw [List.length_take]; omega) (by omega) (fun w h' => (ckrow 1 rfl h' : Sl w A1 (hcs p)).htake (p.length - 1))).to (by rw [hoth _ (by rw [List.length_take]; omega)])) ?_
            refine J.nil ?_
            refine hK38 _ _ _ (fun w hs => hs.mask [true, true, true, true]) ?_
            refine D.takeG 25 (y_ne rfl rfl rfl) rfl rfl rfl rfl rfl rfl rfl (by kernel_rfl) (by kernel_rfl) (by kernel_rfl) (PQ.next (PQ.block (PQ.next (PQ.next (PQ.block (PQ.next PQ.body)))))) ?_
            refine D.takeG 26 (y_pick rfl rfl (fun h => by cases h) (fun _ => rfl)) rfl rfl rfl rfl rfl rfl rfl (by kernel_rfl) (by kernel_rfl) (by kernel_rfl) (PQ.next (PQ.block (PQ.next (PQ.next (PQ.block (PQ.next PQ.body)))))) ?_
            refine D.take 27 (y_pick rfl rfl (fun _ => rfl) (fun h => by cases h)) rfl rfl rfl rfl (by kernel_rfl) (by kernel_rfl) (by kernel_rfl) (PQ.next (PQ.block (PQ.next (PQ.next (PQ.block (PQ.next PQ.body)))))) ?_
            refine D.done (by kernel_rfl) ?_
            refine JQ.next hK34 ?_
            refine JC.condn rfl (fun h5 => ?_) (fun h5 => ?_)
            · exact absurd rfl h5
            · refine JC.skip ?_
              refine JQ.block_normal (JQ.next hK11 ?_)
              refine JC.region ?_
              refine J.yl (y_move rfl rfl) rfl rfl rfl ?_
              refine J.yl (y_add64 rfl rfl rfl (by omega)) rfl rfl rfl ?_
              refine J.yl (y_assign rfl rfl) rfl rfl rfl ?_
              refine J.nil ?_
              refine JQ.drop ?_
              refine JQ.drop ?_
              refine againK8 (m + 1) _ (by omega) (by omega) (okE_cons (slotI (by omega)) okE_nil) (okE_cons rfl (okE_cons rfl (okE_cons rfl okE_nil)))
          · refine D.take 3 (y_move rfl rfl) rfl rfl rfl rfl (by kernel_rfl) (by kernel_rfl) (by kernel_rfl) (PQ.next (PQ.block (PQ.next (PQ.next (PQ.block (PQ.next PQ.body)))))) ?_
            refine D.skipG (b := false) 4 rfl rfl rfl rfl rfl rfl rfl (by kernel_rfl) (by kernel_rfl) (by kernel_rfl) (PQ.next (PQ.block (PQ.next (PQ.next (PQ.block (PQ.next PQ.body)))))) ?_
            refine D.skipG (b := false) 5 rfl rfl rfl rfl rfl rfl rfl (by kernel_rfl) (by kernel_rfl) (by kernel_rfl) (PQ.next (PQ.block (PQ.next (PQ.next (PQ.block (PQ.next PQ.body)))))) ?_
            refine D.skipG (b := false) 6 rfl rfl rfl rfl rfl rfl rfl (by kernel_rfl) (by kernel_rfl) (by kernel_rfl) (PQ.next (PQ.block (PQ.next (PQ.next (PQ.block (PQ.next PQ.body)))))) ?_
            refine D.skipG (b := false) 7 rfl rfl rfl rfl rfl rfl rfl (by kernel_rfl) (by kernel_rfl) (by kernel_rfl) (PQ.next (PQ.block (PQ.next (PQ.next (PQ.block (PQ.next PQ.body)))))) ?_
            refine D.skipG (b := false) 8 rfl rfl rfl rfl rfl rfl rfl (by kernel_rfl) (by kernel_rfl) (by kernel_rfl) (PQ.next (PQ.block (PQ.next (PQ.next (PQ.block (PQ.next PQ.body)))))) ?_
            refine D.skipG (b := false) 9 rfl rfl rfl rfl rfl rfl rfl (by kernel_rfl) (by kernel_rfl) (by kernel_rfl) (PQ.next (PQ.block (PQ.next (PQ.next (PQ.block (PQ.next PQ.body)))))) ?_
            refine D.skipG (b := false) 10 rfl rfl rfl rfl rfl rfl rfl (by kernel_rfl) (by kernel_rfl) (by kernel_rfl) (PQ.next (PQ.block (PQ.next (PQ.next (PQ.block (PQ.next PQ.body)))))) ?_
            refine D.skipG (b := false) 11 rfl rfl rfl rfl rfl rfl rfl (by kernel_rfl) (by kernel_rfl) (by kernel_rfl) (PQ.next (PQ.block (PQ.next (PQ.next (PQ.block (PQ.next PQ.body)))))) ?_
            refine D.skipG (b := false) 12 rfl rfl rfl rfl rfl rfl rfl (by kernel_rfl) (by kernel_rfl) (by kernel_rfl) (PQ.next (PQ.block (PQ.next (PQ.next (PQ.block (PQ.next PQ.body)))))) ?_
            refine D.skipG (b := false) 13 rfl rfl rfl rfl rfl rfl rfl (by kernel_rfl) (by kernel_rfl) (by kernel_rfl) (PQ.next (PQ.block (PQ.next (PQ.next (PQ.block (PQ.next PQ.body)))))) ?_
            refine D.skipGU 14 rfl rfl rfl rfl rfl rfl rfl (by kernel_rfl) (by kernel_rfl) (by kernel_rfl) (PQ.next (PQ.block (PQ.next (PQ.next (PQ.block (PQ.next PQ.body)))))) ?_
            refine D.skipGU 15 rfl rfl rfl rfl rfl rfl rfl (by kernel_rfl) (by kernel_rfl) (by kernel_rfl) (PQ.next (PQ.block (PQ.next (PQ.next (PQ.block (PQ.next PQ.body)))))) ?_
            refine D.skipGU 16 rfl rfl rfl rfl rfl rfl rfl (by kernel_rfl) (by kernel_rfl) (by kernel_rfl) (PQ.next (PQ.block (PQ.next (PQ.next (PQ.block (PQ.next PQ.body)))))) ?_
            refine D.skipGU 17 rfl rfl rfl rfl rfl rfl rfl (by kernel_rfl) (by kernel_rfl) (by kernel_rfl) (PQ.next (PQ.block (PQ.next (PQ.next (PQ.block (PQ.next PQ.body)))))) ?_
            refine D.skipGU 18 rfl rfl rfl rfl rfl rfl rfl (by kernel_rfl) (by kernel_rfl) (by kernel_rfl) (PQ.next (PQ.block (PQ.next (PQ.next (PQ.block (PQ.next PQ.body)))))) ?_
            refine D.skipGU 19 rfl rfl rfl rfl rfl rfl rfl (by kernel_rfl) (by kernel_rfl) (by kernel_rfl) (PQ.next (PQ.block (PQ.next (PQ.next (PQ.block (PQ.next PQ.body)))))) ?_
            refine D.skipGU 20 rfl rfl rfl rfl rfl rfl rfl (by kernel_rfl) (by kernel_rfl) (by kernel_rfl) (PQ.next (PQ.block (PQ.next (PQ.next (PQ.block (PQ.next PQ.body)))))) ?_
            refine D.skipGU 21 rfl rfl rfl rfl rfl rfl rfl (by kernel_rfl) (by kernel_rfl) (by kernel_rfl) (PQ.next (PQ.block (PQ.next (PQ.next (PQ.block (PQ.next PQ.body)))))) ?_
            refine D.skipGU 22 rfl rfl rfl rfl rfl rfl rfl (by kernel_rfl) (by kernel_rfl) (by kernel_rfl) (PQ.next (PQ.block (PQ.next (PQ.next (PQ.block (PQ.next PQ.body)))))) ?_
            refine D.skipGU 23 rfl rfl rfl rfl rfl rfl rfl (by kernel_rfl) (by kernel_rfl) (by kernel_rfl) (PQ.next (PQ.block (PQ.next (PQ.next (PQ.block (PQ.next PQ.body)))))) ?_
            refine D.skipGU 24 rfl rfl rfl rfl rfl rfl rfl (by kernel_rfl) (by kernel_rfl) (by kernel_rfl) (PQ.next (PQ.block (PQ.next (PQ.next (PQ.block (PQ.next PQ.body)))))) ?_
            refine D.skipGU 25 rfl rfl rfl rfl rfl rfl rfl (by kernel_rfl) (by kernel_rfl) (by kernel_rfl) (PQ.next (PQ.block (PQ.next (PQ.next (PQ.block (PQ.next PQ.body)))))) ?_
            refine D.skipG (b := false) 26 rfl rfl rfl rfl rfl rfl rfl (by kernel_rfl) (by kernel_rfl) (by kernel_rfl) (PQ.next (PQ.block (PQ.next (PQ.next (PQ.block (PQ.next PQ.body)))))) ?_
            refine D.take 27 (y_pick rfl rfl (fun h => by cases h) (fun _ => rfl)) rfl rfl rfl rfl (by kernel_rfl) (by kernel_rfl) (by kernel_rfl) (PQ.next (PQ.block (PQ.next (PQ.next (PQ.block (PQ.next PQ.body)))))) ?_
            refine D.done (by kernel_rfl) ?_
            refine JQ.next hK34 ?_
            refine JC.no rfl ?_
            refine JC.skip ?_
            refine JQ.block_normal (JQ.next hK11 ?_)
            refine JC.region ?_
            refine J.yl (y_move rfl rfl) rfl rfl rfl ?_
            refine J.yl (y_add64 rfl rfl rfl (by omega)) rfl rfl rfl ?_
            refine J.yl (y_assign rfl rfl) rfl rfl rfl ?_
            refine J.nil ?_
            refine JQ.drop ?_
            refine JQ.drop ?_
            refine againK8 (m + 1) _ (by omega) (by omega) (okE_cons (slotI (by omega)) okE_nil) (okE_cons rfl (okE_cons rfl (okE_cons rfl okE_nil)))
    · refine JC.exit ?_
      refine JQ.then_exit (JQ.then_exit (JQ.block_hit (JQ.next hK6 ?_)))
      refine JC.seq fun K39 hK39 => ?_
      refine JC.region ?_
      refine J.callv rfl rfl rfl rfl Tb.cl23 rfl (proved_fn) ?_
      refine J.yl (y_assign rfl rfl) rfl rfl rfl ?_
      refine J.nil ?_
      refine JQ.next hK39 ?_
      refine JC.ret ?_
      exact ret1 rfl (r_tmp rfl) fun w hs => Post.pure hs
end Go.Proofs.YtjkfeonbioccmaaDoor
