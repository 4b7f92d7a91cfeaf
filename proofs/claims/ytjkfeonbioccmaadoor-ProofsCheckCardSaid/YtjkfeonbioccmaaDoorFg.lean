/- Speculum proofs: ProofsProof, walked: the proof of any beginning of any leaves is the document's, or refused. -/
import Derived.Test.YtjkfeonbioccmaaDoorFf
namespace Go.Proofs.YtjkfeonbioccmaaDoor
open Go Go.Sx Go.RowKit
set_option linter.unusedVariables false
set_option linter.unusedSimpArgs false
set_option maxRecDepth 100000
set_option maxHeartbeats 1000000
variable {Gl F : World → Prop}
theorem law_ProofsProof (l : List H) (m : Int) (A : Option Addr) (n k : Nat) (hn : l.length = n) (hk : n ≤ k) (hA : ∀ w, F w → Sl w A (hcs l)) : PureFn Tryd.prog Gs 3 [.slice A n k, .int .i64 m] F (.bool true) := by
  refine FnSpec.intro Tryd.func3 rfl Tryd.ntmps3 rfl fun X M w => ?_
  refine JC.seq fun K1 hK1 => ?_
  refine JC.region ?_
  refine J.yl (y_assign rfl rfl) rfl rfl rfl ?_
  refine J.nil ?_
  refine JQ.next hK1 ?_
  refine JC.seq fun K2 hK2 => ?_
  refine JC.seq fun K3 hK3 => ?_
  refine JC.region ?_
  refine J.yl (y_move rfl rfl) rfl rfl rfl ?_
  refine J.yl (y_len rfl Tryd.underlying22 rfl) rfl rfl rfl ?_
  refine J.yl (y_gt rfl rfl rfl) rfl rfl rfl ?_
  refine J.nil ?_
  refine JQ.next hK3 ?_
  refine JC.condp rfl (fun h1 => ?_) (fun h1 => ?_)
  · refine JC.seq fun K4 hK4 => ?_
    refine JC.region ?_
    refine J.callv rfl rfl rfl rfl Tb.cl23 rfl (proved_fn) ?_
    refine J.yl (y_assign rfl rfl) rfl rfl rfl ?_
    refine J.nil ?_
    refine JQ.next hK4 ?_
    refine JC.ret ?_
    refine JQ.then_ret ?_
    exact ret1 rfl (r_tmp rfl) fun w hs => Post.pure hs
  · refine JC.skip ?_
    refine JQ.next hK2 ?_
    refine JC.seq fun K5 hK5 => ?_
    refine JC.seq fun K6 hK6 => ?_
    refine JC.region ?_
    refine J.yl (y_assign rfl rfl) rfl rfl rfl ?_
    refine J.nil ?_
    refine JQ.next hK6 ?_
    refine JC.block ?_
    refine JC.loopE (σ := Nat) (M := fun q => [(5, .int .i64 ((q : Int) - 1))]) (kp := [(0, _), (1, _)]) (hkp := (okE_cons rfl (okE_cons rfl okE_nil))) (Dc := fun _ => []) (H := fun _ => F) (Ψ := fun q => q ≤ n + 4) (μ := fun q => n + 4 - q) 0 (by omega) (okE_cons rfl okE_nil) (fun w h => h) (fun i hi K7 againK7 => ?_)
    refine JC.seq fun K8 hK8 => ?_
    refine JC.seq fun K9 hK9 => ?_
    refine JC.region ?_
    refine J.yl (y_move rfl rfl) rfl rfl rfl ?_
    refine J.yl (y_move rfl rfl) rfl rfl rfl ?_
    refine J.yl (y_len rfl Tryd.underlying22 rfl) rfl rfl rfl ?_
    refine J.yl (y_add64 rfl rfl rfl (by omega)) rfl rfl rfl ?_
    refine J.yl (y_le rfl rfl rfl) rfl rfl rfl ?_
    refine J.nil ?_
    refine JQ.next hK9 ?_
    refine JC.condp rfl (fun h2 => ?_) (fun h2 => ?_)
    · refine JC.skip ?_
      refine JQ.next hK8 ?_
      refine JC.seq fun K10 hK10 => ?_
      refine JC.block ?_
      refine JC.seq fun K11 hK11 => ?_
      refine JC.region ?_
      refine J.yl (y_move rfl rfl) rfl rfl rfl ?_
      refine J.yl (y_assign rfl rfl) rfl rfl rfl ?_
      refine J.nil ?_
      refine JQ.next hK11 ?_
      refine JC.seq fun K12 hK12 => ?_
      refine JC.seq fun K13 hK13 => ?_
      refine JC.region ?_
      refine J.yl (y_move rfl rfl) rfl rfl rfl ?_
      refine J.yl (y_move rfl rfl) rfl rfl rfl ?_
      refine J.yl (y_len rfl Tryd.underlying22 rfl) rfl rfl rfl ?_
      refine J.yl (y_add64 rfl rfl rfl (by omega)) rfl rfl rfl ?_
      refine J.yl (y_eq rfl rfl rfl) rfl rfl rfl ?_
      refine J.nil ?_
      refine JQ.next hK13 ?_
      refine JC.cutE (σ := Int × Unit) (M := fun q => [(6, .int .i64 q.1)]) (kp := [(0, _), (1, _), (5, _)]) (hkp := (okE_cons rfl (okE_cons rfl (okE_cons rfl okE_nil)))) (Dc := fun _ => []) (H := fun _ => F) (Ψ := fun _ => True) (fun K14 againK14 => ?_) (fun sK14 hK14 => ?_)
      · refine JC.condp rfl (fun h3 => ?_) (fun h3 => ?_)
        · refine JC.region ?_
          refine J.yl (y_move rfl rfl) rfl rfl rfl ?_
          refine J.yl (y_assign rfl rfl) rfl rfl rfl ?_
          refine J.nil ?_
          refine againK14 (m, ()) _ trivial (okE_cons rfl okE_nil) (okE_cons rfl (okE_cons rfl (okE_cons rfl okE_nil)))
        · refine JC.skip ?_
          refine againK14 ((i : Int) - 1, ()) _ trivial (okE_cons rfl okE_nil) (okE_cons rfl (okE_cons rfl (okE_cons rfl okE_nil)))
      · obtain ⟨z, u⟩ := sK14
        dsimp only at hK14 ⊢
        obtain _ := hK14
        refine JQ.next hK12 ?_
        refine JC.seq fun K15 hK15 => ?_
        refine JC.region ?_
        refine J.yl (y_move rfl rfl) rfl rfl rfl ?_
        refine J.yl (y_move rfl rfl) rfl rfl rfl ?_
        refine J.callR (Cin := []) rfl rfl rfl rfl Tb.cl24 rfl rfl (proof_fn l z A n k hn hk (by omega) (fun w h => hA w h.1)) ?_
        rintro ⟨A1, k1⟩ hk1
        refine J.yl (y_move rfl rfl) rfl rfl rfl ?_
        refine J.yl (y_extract rfl rfl rfl) rfl rfl rfl ?_
        refine J.yl (y_extract rfl rfl rfl) rfl rfl rfl ?_
        refine J.yl (y_assign rfl rfl) rfl rfl rfl ?_
        refine J.yl (y_assign rfl rfl) rfl rfl rfl ?_
        refine J.nil ?_
        refine JQ.next hK15 ?_
        refine JC.seq fun K16 hK16 => ?_
        refine JC.region ?_
        refine J.yl (y_move rfl rfl) rfl rfl rfl ?_
        refine J.yl (y_move rfl rfl) rfl rfl rfl ?_
        refine J.callR (Cin := []) rfl rfl rfl rfl Tb.cl25 rfl rfl (rproof_fn l z A n k hn hk (by omega) (fun w h => hA w h.1)) ?_
        rintro ⟨A2, k2⟩ ⟨hk2, hl2⟩
        refine J.yl (y_move rfl rfl) rfl rfl rfl ?_
        refine J.yl (y_extract rfl rfl rfl) rfl rfl rfl ?_
        refine J.yl (y_extract rfl rfl rfl) rfl rfl rfl ?_
        refine J.yl (y_assign rfl rfl) rfl rfl rfl ?_
        refine J.yl (y_assign rfl rfl) rfl rfl rfl ?_
        refine J.nil ?_
        refine JQ.next hK16 ?_
        refine JC.seq fun K17 hK17 => ?_
        refine JC.region ?_
        refine J.yl (y_move rfl rfl) rfl rfl rfl ?_
        refine J.yl (y_move rfl rfl) rfl rfl rfl ?_
        refine J.callv rfl rfl rfl rfl Tb.cl26 rfl ((same_fn (prf l z) (prf l z) _ _ _ _ _ _ rfl rfl (by omega) (fun w h => ckrow 1 rfl h) (fun w h => ckrow 0 rfl h)).to (by rw [decide_eq_true rfl])) ?_
        refine J.yl ((y_not rfl rfl).to rfl) rfl rfl rfl ?_
        refine J.yl (y_move rfl rfl) rfl rfl rfl ?_
        refine J.gyes (y_move rfl rfl) rfl rfl rfl rfl rfl rfl ?_
        refine J.gyes (y_move rfl rfl) rfl rfl rfl rfl rfl rfl ?_
        refine J.gyes (y_ne rfl rfl rfl) rfl rfl rfl rfl rfl rfl ?_
        refine J.yl (y_pick rfl rfl (fun h => by cases h) (fun _ => rfl)) rfl rfl rfl ?_
        refine J.nil ?_
        refine JQ.next hK17 ?_
        refine JC.condn rfl (fun h4 => ?_) (fun h4 => ?_)
        · exact absurd rfl h4
        · refine JC.skip ?_
          refine JQ.block_normal (JQ.next hK10 ?_)
          refine JC.region ?_
          refine J.yl (y_move rfl rfl) rfl rfl rfl ?_
          refine J.yl (y_add64 rfl rfl rfl (by omega)) rfl rfl rfl ?_
          refine J.yl (y_assign rfl rfl) rfl rfl rfl ?_
          refine J.nil ?_
          refine JQ.drop ?_
          refine JQ.drop ?_
          refine againK7 (i + 1) _ (by omega) (by omega) (okE_cons (slotI (by omega)) okE_nil) (okE_cons rfl (okE_cons rfl okE_nil))
    · refine JC.exit ?_
      refine JQ.then_exit (JQ.then_exit (JQ.block_hit (JQ.next hK5 ?_)))
      refine JC.seq fun K18 hK18 => ?_
      refine JC.region ?_
      refine J.callv rfl rfl rfl rfl Tb.cl23 rfl (proved_fn) ?_
      refine J.yl (y_assign rfl rfl) rfl rfl rfl ?_
      refine J.nil ?_
      refine JQ.next hK18 ?_
      refine JC.ret ?_
      exact ret1 rfl (r_tmp rfl) fun w hs => Post.pure hs
end Go.Proofs.YtjkfeonbioccmaaDoor
