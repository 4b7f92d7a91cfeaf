/- Speculum proofs: TilesFull, walked: tiles take as many leaves as there may be, and no more. -/
import Derived.Test.YtjkfeonbioccmaaDoorTj
namespace Go.Proofs.YtjkfeonbioccmaaDoor
open Go Go.Sx Go.RowKit
set_option linter.unusedVariables false
set_option linter.unusedSimpArgs false
set_option maxRecDepth 100000
set_option maxHeartbeats 4000000
variable {Gl F : World → Prop}
theorem law_TilesFull (x : H) (less : UInt8) : PureFn Tryd.prog Gs 7 [hv x, u8 less] F (.bool true) := by
  obtain ⟨l, hl, hll⟩ : ∃ l, List.replicate 4096 x = l ∧ l.length = 4096 := ⟨_, rfl, List.length_replicate⟩
  have h12 : tile l 12 0 = some (root l) := by
    have : tile l 12 0 = some (root (seg l (Int.toNat 0 * 2 ^ Int.toNat 12) ((Int.toNat 0 + 1) * 2 ^ Int.toNat 12))) := if_pos ⟨by decide, by decide, by rw [hll]; decide⟩
    rw [this]
    congr 2
    show (l.take 4096).drop 0 = l
    rw [List.take_of_length_le (by omega), List.drop_zero]
  have hr : trt l 4096 = root l := by
    rw [trt, if_neg (by rw [hll]; decide)]
    congr 1
    show l.take 4096 = l
    rw [List.take_of_length_le (by omega)]
  refine FnSpec.intro Tryd.func7 rfl Tryd.ntmps7 rfl fun X M w => ?_
  refine JC.seq fun K1 hK1 => ?_
  refine JC.region ?_
  refine J.box rfl rfl rfl rfl rfl rfl fun g2 => ?_
  refine J.yl (y_assign rfl rfl) rfl rfl rfl ?_
  refine J.nil ?_
  refine JQ.next hK1 ?_
  refine JC.seq fun K2 hK2 => ?_
  refine JC.seq fun K3 hK3 => ?_
  refine JC.region ?_
  refine J.yl (y_move rfl rfl) rfl rfl rfl ?_
  obtain ⟨r, hr8⟩ : ∃ r, (less.toNat : Int).tmod 64 = r := ⟨_, rfl⟩
  refine J.yl (y_rem rfl rfl rfl (by decide) hr8) rfl rfl rfl ?_
  refine J.yl (y_ne rfl rfl rfl) rfl rfl rfl ?_
  refine J.nil ?_
  refine JQ.next hK3 ?_
  refine JC.condn rfl (fun h1 => ?_) (fun h1 => ?_)
  · refine JC.seq fun K4 hK4 => ?_
    refine JC.region ?_
    refine J.callv rfl rfl rfl rfl Tb.cl31 rfl (tiled_fn) ?_
    refine J.yl (y_assign rfl rfl) rfl rfl rfl ?_
    refine J.nil ?_
    refine JQ.next hK4 ?_
    refine JC.ret ?_
    refine JQ.then_ret ?_
    exact ret1 rfl (r_tmp rfl) fun w hs => Post.pure hs
  · refine JC.skip ?_
    refine JQ.next hK2 ?_
    refine JC.seq fun K5 hK5 => ?_
    refine JC.region ?_
    refine J.callR (Cin := []) rfl rfl rfl rfl Tb.cl41 rfl rfl (tnew_fn) ?_
    rintro ⟨T, m⟩ _
    refine J.yl (y_assign rfl rfl) rfl rfl rfl ?_
    refine J.nil ?_
    refine JQ.next hK5 ?_
    refine JC.seq fun K6 hK6 => ?_
    refine JC.seq fun K7 hK7 => ?_
    refine JC.region ?_
    refine J.yl (y_assign rfl rfl) rfl rfl rfl ?_
    refine J.nil ?_
    refine JQ.next hK7 ?_
    refine JC.block ?_
    refine JC.loopE (σ := Nat × Array MapEntry × Nat) (M := fun q => [(6, .int .i64 (q.1 : Int))]) (kp := [(2, _), (5, _)]) (hkp := (okE_cons rfl (okE_cons rfl okE_nil))) (Dc := fun q => Tc T m q.1 q.2.1 q.2.2 ++ [.box g2 30 (hc x)]) (H := fun _ => F) (Ψ := fun q => q.1 ≤ 4096 ∧ Mp q.2.1 (tile (List.replicate q.1 x))) (μ := fun q => 4096 - q.1) (0, #[], 0) ⟨Nat.zero_le _, Mp.nil.to fun a b => (tile_nil a b).symm⟩ (okE_cons rfl okE_nil) (fun w h => h) (fun sK8 hK8 K8 againK8 => ?_)
    obtain ⟨i, es, clock⟩ := sK8
    dsimp only at hK8 againK8 ⊢
    obtain ⟨hi, hM⟩ := hK8
    refine JC.seq fun K9 hK9 => ?_
    refine JC.seq fun K10 hK10 => ?_
    refine JC.region ?_
    refine J.yl (y_move rfl rfl) rfl rfl rfl ?_
    refine J.yl (y_lt rfl rfl rfl) rfl rfl rfl ?_
    refine J.nil ?_
    refine JQ.next hK10 ?_
    refine JC.condp rfl (fun h2 => ?_) (fun h2 => ?_)
    · have hsn : addL (List.replicate i x) x = List.replicate (i + 1) x := by
        rw [addL, if_neg (by rw [List.length_replicate]; omega), List.replicate_succ']
      have hE : addE (List.replicate i x) = 0 := if_neg (by rw [List.length_replicate]; omega)
      refine JC.skip ?_
      refine JQ.next hK9 ?_
      refine JC.seq fun K11 hK11 => ?_
      refine JC.block ?_
      refine JC.seq fun K12 hK12 => ?_
      refine JC.region ?_
      refine J.yl (y_move rfl rfl) rfl rfl rfl ?_
      refine J.yl (y_lbW 2 rfl Tb.ag30 Tb.sz30 (hcl _) rfl rfl) rfl rfl rfl ?_
      refine J.callR (Cin := [_, _]) rfl rfl rfl rfl Tb.cl42 rfl rfl (tadd_fnE T m i es clock (List.replicate i x) x hM List.length_replicate (List.replicate (i + 1) x) (i + 1) 0 hsn List.length_replicate hE) ?_
      rintro ⟨es2, clock2⟩ hM2
      refine J.yl (y_ne rfl rfl rfl) rfl rfl rfl ?_
      refine J.nil ?_
      refine JQ.next hK12 ?_
      refine JC.condn rfl (fun h3 => ?_) (fun h3 => ?_)
      · exact absurd rfl h3
      · refine JC.skip ?_
        refine JQ.block_normal (JQ.next hK11 ?_)
        refine JC.region ?_
        refine J.yl (y_move rfl rfl) rfl rfl rfl ?_
        refine J.yl (y_add64 rfl rfl rfl (by omega)) rfl rfl rfl ?_
        refine J.yl (y_assign rfl rfl) rfl rfl rfl ?_
        refine J.nil ?_
        refine againK8 (i + 1, es2, clock2) _ ⟨by dsimp only; omega, hM2⟩ (by dsimp only; omega) (okE_cons (slotI (by dsimp only; omega)) okE_nil) (okE_cons rfl (okE_cons rfl okE_nil))
    · obtain rfl : i = 4096 := by omega
      rw [hl] at hM
      have hsn : addL l x = l := if_pos (by omega)
      have hE : addE l = 60 := if_pos (by omega)
      refine JC.exit ?_
      refine JQ.then_exit (JQ.then_exit (JQ.block_hit (JQ.next hK6 ?_)))
      refine JC.seq fun K13 hK13 => ?_
      refine JC.region ?_
      refine J.yl (y_move rfl rfl) rfl rfl rfl ?_
      refine J.callv rfl rfl rfl rfl Tb.cl33 rfl (tnode_fnE T m 4096 es clock (tile l) hM 12 0 (by unfold in64; omega) (by unfold in64; omega) (root l) true (by rw [h12]; rfl) (by rw [h12]; rfl) (fun w h => tt_of 0 1 rfl rfl h.2)) ?_
      refine J.yl (y_move rfl rfl) rfl rfl rfl ?_
      refine J.yl (y_extract rfl rfl rfl) rfl rfl rfl ?_
      refine J.yl (y_extract rfl rfl rfl) rfl rfl rfl ?_
      refine J.alloc rfl rfl rfl rfl Tb.zz30 rfl fun g7 => ?_
      refine J.storeW 0 rfl rfl rfl rfl rfl rfl rfl Tb.sz30 (hcl _) (hcl _) (hc1 _) ?_
      refine J.yl (y_assign rfl rfl) rfl rfl rfl ?_
      refine J.nil ?_
      refine JQ.next hK13 ?_
      refine JC.seq fun K14 hK14 => ?_
      refine JC.region ?_
      refine J.yl (y_move rfl rfl) rfl rfl rfl ?_
      refine J.callv rfl rfl rfl rfl Tb.cl35 rfl (tRoot_fnE T m 4096 es clock l hM hll (by omega) 4096 (root l) 0 hr rfl (fun w h => tt_of 1 2 rfl rfl h.2)) ?_
      refine J.yl (y_move rfl rfl) rfl rfl rfl ?_
      refine J.yl (y_extract rfl rfl rfl) rfl rfl rfl ?_
      refine J.yl (y_extract rfl rfl rfl) rfl rfl rfl ?_
      refine J.alloc rfl rfl rfl rfl Tb.zz30 rfl fun g9 => ?_
      refine J.storeW 0 rfl rfl rfl rfl rfl rfl rfl Tb.sz30 (hcl _) (hcl _) (hc1 _) ?_
      refine J.yl (y_assign rfl rfl) rfl rfl rfl ?_
      refine J.nil ?_
      refine JQ.next hK14 ?_
      refine JC.seq fun K15 hK15 => ?_
      refine JC.region ?_
      refine J.yl (y_move rfl rfl) rfl rfl rfl ?_
      refine J.yl (y_lbW 4 rfl Tb.ag30 Tb.sz30 (hcl _) rfl rfl) rfl rfl rfl ?_
      refine J.front 3 rfl ?_
      refine J.front 3 rfl ?_
      refine J.callR (Cin := [_, _]) rfl rfl rfl rfl Tb.cl42 rfl rfl (tadd_fnE T m 4096 es clock l x hM hll l 4096 60 hsn hll hE) ?_
      rintro ⟨es2, clock2⟩ hM2
      refine J.yl ((y_eq rfl rfl rfl).to rfl) rfl rfl rfl ?_
      refine J.yl (y_move rfl rfl) rfl rfl rfl ?_
      refine J.gyes (y_move rfl rfl) rfl rfl rfl rfl rfl rfl ?_
      refine J.gon rfl rfl rfl rfl ?_
      refine J.callv rfl rfl rfl rfl Tb.cl43 rfl (size_fn T m 4096 es2 clock2 (fun w h => tt_of 0 1 rfl rfl h.2)) ?_
      refine J.gyes ((y_eq rfl rfl rfl).to rfl) rfl rfl rfl rfl rfl rfl ?_
      refine J.yl (y_pick rfl rfl (fun _ => rfl) (fun h => by cases h)) rfl rfl rfl ?_
      refine J.yl (y_move rfl rfl) rfl rfl rfl ?_
      refine J.gyes (y_move rfl rfl) rfl rfl rfl rfl rfl rfl ?_
      refine J.yl (y_pick rfl rfl (fun _ => rfl) (fun h => by cases h)) rfl rfl rfl ?_
      refine J.yl (y_move rfl rfl) rfl rfl rfl ?_
      refine J.gyes (y_move rfl rfl) rfl rfl rfl rfl rfl rfl ?_
      refine J.gyes ((y_eq rfl rfl rfl).to rfl) rfl rfl rfl rfl rfl rfl ?_
      refine J.yl (y_pick rfl rfl (fun _ => rfl) (fun h => by cases h)) rfl rfl rfl ?_
      refine J.yl (y_move rfl rfl) rfl rfl rfl ?_
      refine J.gyes (y_lbW 3 rfl Tb.ag30 Tb.sz30 (hcl _) rfl rfl) rfl rfl rfl rfl rfl rfl ?_
      refine J.gyes (y_lbW 2 rfl Tb.ag30 Tb.sz30 (hcl _) rfl rfl) rfl rfl rfl rfl rfl rfl ?_
      refine J.gyes (Yl.to (v' := .bool true) (y_heq rfl Tryd.underlying30 Tryd.underlying5 Tb.ag5 Tb.sz5 Tb.eg30 rfl rfl) (by rw [decide_eq_true rfl]; first | done | rfl)) rfl rfl rfl rfl rfl rfl ?_
      refine J.yl (y_pick rfl rfl (fun _ => rfl) (fun h => by cases h)) rfl rfl rfl ?_
      refine J.yl (y_move rfl rfl) rfl rfl rfl ?_
      refine J.gon rfl rfl rfl rfl ?_
      refine J.callv rfl rfl rfl rfl Tb.cl31 rfl (tiled_fn) ?_
      refine J.yl (y_pick rfl rfl (fun _ => rfl) (fun h => by cases h)) rfl rfl rfl ?_
      refine J.yl (y_assign rfl rfl) rfl rfl rfl ?_
      refine J.nil ?_
      refine JQ.next hK15 ?_
      refine JC.ret ?_
      exact ret1 rfl (r_tmp rfl) fun w hs => Post.pure hs
end Go.Proofs.YtjkfeonbioccmaaDoor
