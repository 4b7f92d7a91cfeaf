/- Speculum proofs: TilesTell, walked: the root of any first leaves, the path of any of them, the proof of any beginning, and any node, are the document's, or refused. -/
import Derived.Test.YtjkfeonbioccmaaDoorTj
namespace Go.Proofs.YtjkfeonbioccmaaDoor
open Go Go.Sx Go.RowKit
set_option linter.unusedVariables false
set_option linter.unusedSimpArgs false
set_option maxRecDepth 100000
set_option maxHeartbeats 4000000
variable {Gl F : World → Prop}
theorem tpth_le (l : List H) (i z : Int) (h : l.length ≤ 4096) : (tpth l i z).length ≤ 4096 := by
  unfold tpth
  split
  · exact Nat.zero_le _
  · have := path_le 12 (l.take z.toNat) i.toNat (by rw [List.length_take]; have : (2 : Nat) ^ 12 = 4096 := rfl; omega)
    omega
theorem tpf_le (l : List H) (i z : Int) (h : l.length ≤ 4096) : (tpf l i z).length ≤ 4096 := by
  unfold tpf
  split
  · exact Nat.zero_le _
  · have := sub_len (l.take z.toNat).length (l.take z.toNat) i.toNat true (Nat.le_refl _) (by omega) (by rw [List.length_take]; omega)
    rw [List.length_take] at this
    omega
theorem law_TilesTell (l : List H) (na nb : Int) (A : Option Addr) (n k : Nat) (hn : l.length = n) (hk : n ≤ k) (hna : in64 na) (hnb : in64 nb) (hA : ∀ w, F w → Sl w A (hcs l)) : PureFn Tryd.prog Gs 6 [.slice A n k, kv na nb] F (.bool true) := by
  refine FnSpec.intro Tryd.func6 rfl Tryd.ntmps6 rfl fun X M w => ?_
  refine JC.seq fun K1 hK1 => ?_
  refine JC.region ?_
  refine J.box rfl rfl rfl rfl rfl rfl fun g3 => ?_
  refine J.yl (y_assign rfl rfl) rfl rfl rfl ?_
  refine J.nil ?_
  refine JQ.next hK1 ?_
  refine JC.seq fun K2 hK2 => ?_
  refine JC.seq fun K3 hK3 => ?_
  refine JC.region ?_
  refine J.yl (y_move rfl rfl) rfl rfl rfl ?_
  refine J.yl (y_len rfl Tryd.underlying22 rfl) rfl rfl rfl ?_
  refine J.yl (y_gt rfl rfl rfl) rfl rfl rfl ?_
  refine J.nil ?_
  refine JQ.next hK3 ?_
  refine JC.condp rfl (fun h1 => ?_) (fun h1 => ?_)
  · refine JC.seq fun K4 hK4 => ?_
    refine JC.region ?_
    refine J.callv rfl rfl rfl rfl Tb.cl31 rfl (tiled_fn) ?_
    refine J.yl (y_assign rfl rfl) rfl rfl rfl ?_
    refine J.nil ?_
    refine JQ.next hK4 ?_
    refine JC.ret ?_
    refine JQ.then_ret ?_
    exact ret1 rfl (r_tmp rfl) fun w hs => Post.pure hs
  · refine JC.skip ?_
    refine JQ.next hK2 ?_
    refine JC.seq fun K5 hK5 => ?_
    refine JC.region ?_
    refine J.yl (y_move rfl rfl) rfl rfl rfl ?_
    refine J.callR (Cin := []) rfl rfl rfl rfl Tb.cl32 rfl rfl (of_fn l A n k hn hk (by omega) (fun w h => hA w h.1)) ?_
    rintro ⟨T, m, es, clock⟩ hM
    refine J.yl (y_move rfl rfl) rfl rfl rfl ?_
    refine J.yl (y_extract rfl rfl rfl) rfl rfl rfl ?_
    refine J.yl (y_extract rfl rfl rfl) rfl rfl rfl ?_
    refine J.yl (y_assign rfl rfl) rfl rfl rfl ?_
    refine J.yl (y_assign rfl rfl) rfl rfl rfl ?_
    refine J.nil ?_
    refine JQ.next hK5 ?_
    refine JC.seq fun K6 hK6 => ?_
    refine JC.seq fun K7 hK7 => ?_
    refine JC.region ?_
    refine J.yl (y_move rfl rfl) rfl rfl rfl ?_
    refine J.yl ((y_not rfl rfl).to rfl) rfl rfl rfl ?_
    refine J.nil ?_
    refine JQ.next hK7 ?_
    refine JC.no rfl ?_
    refine JC.skip ?_
    refine JQ.next hK6 ?_
    refine JC.seq fun K8 hK8 => ?_
    refine JC.seq fun K9 hK9 => ?_
    refine JC.region ?_
    refine J.yl (y_assign rfl rfl) rfl rfl rfl ?_
    refine J.nil ?_
    refine JQ.next hK9 ?_
    refine JC.block ?_
    refine JC.loopE (σ := Nat) (M := fun q => [(7, .int .i64 (q : Int))]) (kp := [(0, _), (3, _), (5, _)]) (hkp := (okE_cons rfl (okE_cons rfl (okE_cons rfl okE_nil)))) (Dc := fun _ => Tc T m n es clock ++ [.box g3 38 [.int .i64 na, .int .i64 nb]]) (H := fun _ => F) (Ψ := fun q => q ≤ 9) (μ := fun q => 9 - q) 0 (by omega) (okE_cons rfl okE_nil) (fun w h => h) (fun q hq K10 againK10 => ?_)
    refine JC.seq fun K11 hK11 => ?_
    refine JC.seq fun K12 hK12 => ?_
    refine JC.region ?_
    refine J.yl (y_move rfl rfl) rfl rfl rfl ?_
    refine J.yl (y_lt rfl rfl rfl) rfl rfl rfl ?_
    refine J.nil ?_
    refine JQ.next hK12 ?_
    refine JC.condp rfl (fun h2 => ?_) (fun h2 => ?_)
    · refine JC.skip ?_
      refine JQ.next hK11 ?_
      refine JC.seq fun K13 hK13 => ?_
      refine JC.block ?_
      refine JC.seq fun K14 hK14 => ?_
      refine JC.draw (by kernel_rfl) ?_
      refine D.take 0 (y_ib rfl Tryd.underlying38 Tb.sz3 rfl rfl (by decide)) rfl rfl rfl rfl (by kernel_rfl) (by kernel_rfl) (by kernel_rfl) (PQ.next (PQ.block (PQ.next (PQ.next (PQ.block (PQ.next PQ.body)))))) ?_
      refine D.take 1 (y_lb 2 rfl Tb.ag3 rfl rfl rfl) rfl rfl rfl rfl (by kernel_rfl) (by kernel_rfl) (by kernel_rfl) (PQ.next (PQ.block (PQ.next (PQ.next (PQ.block (PQ.next PQ.body)))))) ?_
      refine D.take 2 (y_ib rfl Tryd.underlying38 Tb.sz3 rfl rfl (by decide)) rfl rfl rfl rfl (by kernel_rfl) (by kernel_rfl) (by kernel_rfl) (PQ.next (PQ.block (PQ.next (PQ.next (PQ.block (PQ.next PQ.body)))))) ?_
      refine D.take 3 (y_lb 2 rfl Tb.ag3 rfl rfl rfl) rfl rfl rfl rfl (by kernel_rfl) (by kernel_rfl) (by kernel_rfl) (PQ.next (PQ.block (PQ.next (PQ.next (PQ.block (PQ.next PQ.body)))))) ?_
      refine D.take 4 (y_assign rfl rfl) rfl rfl rfl rfl (by kernel_rfl) (by kernel_rfl) (by kernel_rfl) (PQ.next (PQ.block (PQ.next (PQ.next (PQ.block (PQ.next PQ.body)))))) ?_
      refine D.take 5 (y_assign rfl rfl) rfl rfl rfl rfl (by kernel_rfl) (by kernel_rfl) (by kernel_rfl) (PQ.next (PQ.block (PQ.next (PQ.next (PQ.block (PQ.next PQ.body)))))) ?_
      refine D.done (by kernel_rfl) ?_
      refine JQ.next hK14 ?_
      refine JC.seq fun K15 hK15 => ?_
      refine JC.seq fun K16 hK16 => ?_
      refine JC.region ?_
      refine J.yl (y_move rfl rfl) rfl rfl rfl ?_
      refine J.yl (y_gt rfl rfl rfl) rfl rfl rfl ?_
      refine J.nil ?_
      refine JQ.next hK16 ?_
      refine JC.cutE (σ := Int × Int) (M := fun p => [(8, .int .i64 p.1), (9, .int .i64 p.2)]) (kp := [(0, _), (3, _), (5, _), (7, _)]) (hkp := (okE_cons rfl (okE_cons rfl (okE_cons rfl (okE_cons rfl okE_nil))))) (Dc := fun _ => Tc T m n es clock ++ [.box g3 38 [.int .i64 na, .int .i64 nb]]) (H := fun _ => F) (Ψ := fun p => in64 p.1 ∧ in64 p.2) (fun K17 againK17 => ?_) (fun sK17 hK17 => ?_)
      · refine JC.condp rfl (fun h3 => ?_) (fun h3 => ?_)
        · obtain ⟨x1, hx1, hx1b⟩ : ∃ x, andI (IntKind.i64.wrap (na + 9 * (q : Int))) 127 = x ∧ x ≤ 127 := ⟨_, rfl, andI_le _ 127 (by decide)⟩
          obtain ⟨x2, hx2, hx2b⟩ : ∃ x, andI (IntKind.i64.wrap (nb + 31 * (q : Int))) 127 = x ∧ x ≤ 127 := ⟨_, rfl, andI_le _ 127 (by decide)⟩
          refine JC.draw (by kernel_rfl) ?_
          refine D.take 0 (y_ib rfl Tryd.underlying38 Tb.sz3 rfl rfl (by decide)) rfl rfl rfl rfl (by kernel_rfl) (by kernel_rfl) (by kernel_rfl) (PQ.next (PQ.next (PQ.block (PQ.next (PQ.next (PQ.block (PQ.next PQ.body))))))) ?_
          refine D.take 1 (y_lb 2 rfl Tb.ag3 rfl rfl rfl) rfl rfl rfl rfl (by kernel_rfl) (by kernel_rfl) (by kernel_rfl) (PQ.next (PQ.next (PQ.block (PQ.next (PQ.next (PQ.block (PQ.next PQ.body))))))) ?_
          refine D.take 2 (y_move rfl rfl) rfl rfl rfl rfl (by kernel_rfl) (by kernel_rfl) (by kernel_rfl) (PQ.next (PQ.next (PQ.block (PQ.next (PQ.next (PQ.block (PQ.next PQ.body))))))) ?_
          refine D.take 3 (y_mul64 rfl rfl rfl (by omega)) rfl rfl rfl rfl (by kernel_rfl) (by kernel_rfl) (by kernel_rfl) (PQ.next (PQ.next (PQ.block (PQ.next (PQ.next (PQ.block (PQ.next PQ.body))))))) ?_
          refine D.take 7 (y_ib rfl Tryd.underlying38 Tb.sz3 rfl rfl (by decide)) rfl rfl rfl rfl (by kernel_rfl) (by kernel_rfl) (by kernel_rfl) (PQ.next (PQ.next (PQ.block (PQ.next (PQ.next (PQ.block (PQ.next PQ.body))))))) ?_
          refine D.take 8 (y_lb 2 rfl Tb.ag3 rfl rfl rfl) rfl rfl rfl rfl (by kernel_rfl) (by kernel_rfl) (by kernel_rfl) (PQ.next (PQ.next (PQ.block (PQ.next (PQ.next (PQ.block (PQ.next PQ.body))))))) ?_
          refine D.take 9 (y_move rfl rfl) rfl rfl rfl rfl (by kernel_rfl) (by kernel_rfl) (by kernel_rfl) (PQ.next (PQ.next (PQ.block (PQ.next (PQ.next (PQ.block (PQ.next PQ.body))))))) ?_
          refine D.take 10 (y_mul64 rfl rfl rfl (by omega)) rfl rfl rfl rfl (by kernel_rfl) (by kernel_rfl) (by kernel_rfl) (PQ.next (PQ.next (PQ.block (PQ.next (PQ.next (PQ.block (PQ.next PQ.body))))))) ?_
          refine D.take 4 (y_add rfl rfl rfl rfl) rfl rfl rfl rfl (by kernel_rfl) (by kernel_rfl) (by kernel_rfl) (PQ.next (PQ.next (PQ.block (PQ.next (PQ.next (PQ.block (PQ.next PQ.body))))))) ?_
          refine D.take 5 ((y_andI 127 rfl rfl rfl rfl (by decide)).to (by rw [hx1])) rfl rfl rfl rfl (by kernel_rfl) (by kernel_rfl) (by kernel_rfl) (PQ.next (PQ.next (PQ.block (PQ.next (PQ.next (PQ.block (PQ.next PQ.body))))))) ?_
          refine D.take 6 (y_sub64 rfl rfl rfl (by omega)) rfl rfl rfl rfl (by kernel_rfl) (by kernel_rfl) (by kernel_rfl) (PQ.next (PQ.next (PQ.block (PQ.next (PQ.next (PQ.block (PQ.next PQ.body))))))) ?_
          refine D.take 14 (y_assign rfl rfl) rfl rfl rfl rfl (by kernel_rfl) (by kernel_rfl) (by kernel_rfl) (PQ.next (PQ.next (PQ.block (PQ.next (PQ.next (PQ.block (PQ.next PQ.body))))))) ?_
          refine D.take 11 (y_add rfl rfl rfl rfl) rfl rfl rfl rfl (by kernel_rfl) (by kernel_rfl) (by kernel_rfl) (PQ.next (PQ.next (PQ.block (PQ.next (PQ.next (PQ.block (PQ.next PQ.body))))))) ?_
          refine D.take 12 ((y_andI 127 rfl rfl rfl rfl (by decide)).to (by rw [hx2])) rfl rfl rfl rfl (by kernel_rfl) (by kernel_rfl) (by kernel_rfl) (PQ.next (PQ.next (PQ.block (PQ.next (PQ.next (PQ.block (PQ.next PQ.body))))))) ?_
          refine D.take 13 (y_sub64 rfl rfl rfl (by omega)) rfl rfl rfl rfl (by kernel_rfl) (by kernel_rfl) (by kernel_rfl) (PQ.next (PQ.next (PQ.block (PQ.next (PQ.next (PQ.block (PQ.next PQ.body))))))) ?_
          refine D.take 15 (y_assign rfl rfl) rfl rfl rfl rfl (by kernel_rfl) (by kernel_rfl) (by kernel_rfl) (PQ.next (PQ.next (PQ.block (PQ.next (PQ.next (PQ.block (PQ.next PQ.body))))))) ?_
          refine D.done (by kernel_rfl) ?_
          refine againK17 ((x1 : Int) - 1, (x2 : Int) - 1) _ ⟨by unfold in64; omega, by unfold in64; omega⟩ (okE_cons rfl (okE_cons rfl okE_nil)) (okE_cons rfl (okE_cons rfl (okE_cons rfl (okE_cons rfl okE_nil))))
        · refine JC.skip ?_
          refine againK17 (na, nb) _ ⟨hna, hnb⟩ (okE_cons rfl (okE_cons rfl okE_nil)) (okE_cons rfl (okE_cons rfl (okE_cons rfl (okE_cons rfl okE_nil))))
      · obtain ⟨a, b⟩ := sK17
        dsimp only at hK17 ⊢
        obtain ⟨ha, hb⟩ := hK17
        refine JQ.next hK15 ?_
        refine JC.seq fun K18 hK18 => ?_
        refine JC.region ?_
        refine J.yl (y_move rfl rfl) rfl rfl rfl ?_
        refine J.yl (y_move rfl rfl) rfl rfl rfl ?_
        refine J.yl (y_move rfl rfl) rfl rfl rfl ?_
        refine J.callv rfl rfl rfl rfl Tb.cl33 rfl (tnode_fn T m n es clock (tile l) hM a b ha hb (fun w h => tt_of 0 1 rfl rfl h.2)) ?_
        refine J.yl (y_move rfl rfl) rfl rfl rfl ?_
        refine J.yl (y_extract rfl rfl rfl) rfl rfl rfl ?_
        refine J.yl (y_extract rfl rfl rfl) rfl rfl rfl ?_
        refine J.alloc rfl rfl rfl rfl Tb.zz30 rfl fun g10 => ?_
        refine J.storeW 0 rfl rfl rfl rfl rfl rfl rfl Tb.sz30 (hcl _) (hcl _) (hc1 _) ?_
        refine J.yl (y_assign rfl rfl) rfl rfl rfl ?_
        refine J.nil ?_
        refine JQ.next hK18 ?_
        refine JC.seq fun K19 hK19 => ?_
        refine JC.region ?_
        refine J.yl (y_move rfl rfl) rfl rfl rfl ?_
        refine J.yl (y_move rfl rfl) rfl rfl rfl ?_
        refine J.yl (y_move rfl rfl) rfl rfl rfl ?_
        refine J.callv rfl rfl rfl rfl Tb.cl34 rfl (r14node_fn l a b A n k hn hk (by omega) (fun w h => hA w h.1)) ?_
        refine J.yl (y_move rfl rfl) rfl rfl rfl ?_
        refine J.yl (y_extract rfl rfl rfl) rfl rfl rfl ?_
        refine J.yl (y_extract rfl rfl rfl) rfl rfl rfl ?_
        refine J.alloc rfl rfl rfl rfl Tb.zz30 rfl fun g12 => ?_
        refine J.storeW 0 rfl rfl rfl rfl rfl rfl rfl Tb.sz30 (hcl _) (hcl _) (hc1 _) ?_
        refine J.yl (y_assign rfl rfl) rfl rfl rfl ?_
        refine J.nil ?_
        refine JQ.next hK19 ?_
        refine JC.seq fun K20 hK20 => ?_
        refine JC.seq fun K21 hK21 => ?_
        refine JC.region ?_
        refine J.yl (y_move rfl rfl) rfl rfl rfl ?_
        refine J.yl (y_gt rfl rfl rfl) rfl rfl rfl ?_
        refine J.nil ?_
        refine JQ.next hK21 ?_
        refine JC.cutE (σ := H × Bool) (M := fun p => [(11, .bool p.2), (13, .bool p.2)]) (kp := [(0, _), (3, _), (5, _), (7, _), (8, _), (9, _), (10, _), (12, _)]) (hkp := (okE_cons rfl (okE_cons rfl (okE_cons rfl (okE_cons rfl (okE_cons rfl (okE_cons rfl (okE_cons rfl (okE_cons rfl okE_nil))))))))) (Dc := fun p => [.box g12 30 (hc p.1), .box g10 30 (hc p.1)] ++ (Tc T m n es clock ++ [.box g3 38 [.int .i64 na, .int .i64 nb]])) (H := fun _ => F) (Ψ := fun _ => True) (fun K22 againK22 => ?_) (fun sK22 hK22 => ?_)
        · refine JC.condp rfl (fun h4 => ?_) (fun h4 => ?_)
          · obtain ⟨y, hy, hyb⟩ : ∃ x, andI a 7 = x ∧ x ≤ 7 := ⟨_, rfl, andI_le _ 7 (by decide)⟩
            obtain ⟨z, hz, hz64⟩ : ∃ z, IntKind.i64.wrap (b.tdiv 4) = z ∧ in64 z := ⟨_, rfl, by rw [IntKind.wrap_i64]; unfold in64; omega⟩
            have hy64 : in64 (y : Int) := by unfold in64; omega
            refine JC.seq fun K23 hK23 => ?_
            refine JC.region ?_
            refine J.yl (y_move rfl rfl) rfl rfl rfl ?_
            refine J.yl (y_move rfl rfl) rfl rfl rfl ?_
            refine J.yl ((y_andI 7 rfl rfl rfl rfl (by decide)).to (by rw [hy])) rfl rfl rfl ?_
            refine J.yl (y_move rfl rfl) rfl rfl rfl ?_
            refine J.yl (y_quo rfl rfl rfl (by decide) hz) rfl rfl rfl ?_
            refine J.callv rfl rfl rfl rfl Tb.cl33 rfl (tnode_fn T m n es clock (tile l) hM y z hy64 hz64 (fun w h => tt_of 2 3 rfl rfl h.2)) ?_
            refine J.yl (y_move rfl rfl) rfl rfl rfl ?_
            refine J.yl (y_extract rfl rfl rfl) rfl rfl rfl ?_
            refine J.yl (y_extract rfl rfl rfl) rfl rfl rfl ?_
            refine J.storeW 1 rfl rfl rfl rfl rfl rfl rfl Tb.sz30 (hcl _) (hcl _) (hc1 _) ?_
            refine J.yl (y_assign rfl rfl) rfl rfl rfl ?_
            refine J.nil ?_
            refine JQ.next hK23 ?_
            refine JC.region ?_
            refine J.yl (y_move rfl rfl) rfl rfl rfl ?_
            refine J.yl (y_move rfl rfl) rfl rfl rfl ?_
            refine J.yl ((y_andI 7 rfl rfl rfl rfl (by decide)).to (by rw [hy])) rfl rfl rfl ?_
            refine J.yl (y_move rfl rfl) rfl rfl rfl ?_
            refine J.yl (y_quo rfl rfl rfl (by decide) hz) rfl rfl rfl ?_
            refine J.callv rfl rfl rfl rfl Tb.cl34 rfl (r14node_fn l y z A n k hn hk (by omega) (fun w h => hA w h.1)) ?_
            refine J.yl (y_move rfl rfl) rfl rfl rfl ?_
            refine J.yl (y_extract rfl rfl rfl) rfl rfl rfl ?_
            refine J.yl (y_extract rfl rfl rfl) rfl rfl rfl ?_
            refine J.storeW 0 rfl rfl rfl rfl rfl rfl rfl Tb.sz30 (hcl _) (hcl _) (hc1 _) ?_
            refine J.yl (y_assign rfl rfl) rfl rfl rfl ?_
            refine J.nil ?_
            refine againK22 ((tile l (y : Int) z).getD H.zero, (tile l y z).isSome) _ trivial (okE_cons rfl (okE_cons rfl okE_nil)) (okE_cons rfl (okE_cons rfl (okE_cons rfl (okE_cons rfl (okE_cons rfl (okE_cons rfl (okE_cons rfl (okE_cons rfl okE_nil))))))))
          · refine JC.skip ?_
            refine againK22 ((tile l a b).getD H.zero, (tile l a b).isSome) _ trivial (okE_cons rfl (okE_cons rfl okE_nil)) (okE_cons rfl (okE_cons rfl (okE_cons rfl (okE_cons rfl (okE_cons rfl (okE_cons rfl (okE_cons rfl (okE_cons rfl okE_nil))))))))
        · obtain ⟨x, v⟩ := sK22
          dsimp only at hK22 ⊢
          obtain htriv := hK22
          refine JQ.next hK20 ?_
          refine JC.seq fun K24 hK24 => ?_
          refine JC.region ?_
          refine J.yl (y_move rfl rfl) rfl rfl rfl ?_
          refine J.yl (y_move rfl rfl) rfl rfl rfl ?_
          have hp1 := tpth_le l a b (by omega)
          have hp2 := tpf_le l a b (by omega)
          refine J.callv rfl rfl rfl rfl Tb.cl35 rfl (tRoot_fn T m n es clock l hM hn (by omega) b (fun w h => tt_of 2 3 rfl rfl h.2)) ?_
          refine J.yl (y_move rfl rfl) rfl rfl rfl ?_
          refine J.yl (y_extract rfl rfl rfl) rfl rfl rfl ?_
          refine J.yl (y_extract rfl rfl rfl) rfl rfl rfl ?_
          refine J.alloc rfl rfl rfl rfl Tb.zz30 rfl fun g14 => ?_
          refine J.storeW 0 rfl rfl rfl rfl rfl rfl rfl Tb.sz30 (hcl _) (hcl _) (hc1 _) ?_
          refine J.yl (y_assign rfl rfl) rfl rfl rfl ?_
          refine J.nil ?_
          refine JQ.next hK24 ?_
          refine JC.seq fun K25 hK25 => ?_
          refine JC.region ?_
          refine J.yl (y_move rfl rfl) rfl rfl rfl ?_
          refine J.yl (y_move rfl rfl) rfl rfl rfl ?_
          refine J.callv rfl rfl rfl rfl Tb.cl36 rfl (r14root_fn l b A n k hn hk (by omega) (fun w h => hA w h.1)) ?_
          refine J.yl (y_move rfl rfl) rfl rfl rfl ?_
          refine J.yl (y_extract rfl rfl rfl) rfl rfl rfl ?_
          refine J.yl (y_extract rfl rfl rfl) rfl rfl rfl ?_
          refine J.alloc rfl rfl rfl rfl Tb.zz30 rfl fun g16 => ?_
          refine J.storeW 0 rfl rfl rfl rfl rfl rfl rfl Tb.sz30 (hcl _) (hcl _) (hc1 _) ?_
          refine J.yl (y_assign rfl rfl) rfl rfl rfl ?_
          refine J.nil ?_
          refine JQ.next hK25 ?_
          refine JC.seq fun K26 hK26 => ?_
          refine JC.region ?_
          refine J.yl (y_move rfl rfl) rfl rfl rfl ?_
          refine J.yl (y_move rfl rfl) rfl rfl rfl ?_
          refine J.yl (y_move rfl rfl) rfl rfl rfl ?_
          refine J.callR (Cin := []) rfl rfl rfl rfl Tb.cl37 rfl rfl (tPath_fn T m n es clock l hM hn (by omega) a b (fun w h => tt_of 4 5 rfl rfl h.2)) ?_
          rintro ⟨A1, k1⟩ hk1
          refine J.yl (y_move rfl rfl) rfl rfl rfl ?_
          refine J.yl (y_extract rfl rfl rfl) rfl rfl rfl ?_
          refine J.yl (y_extract rfl rfl rfl) rfl rfl rfl ?_
          refine J.yl (y_assign rfl rfl) rfl rfl rfl ?_
          refine J.yl (y_assign rfl rfl) rfl rfl rfl ?_
          refine J.nil ?_
          refine JQ.next hK26 ?_
          refine JC.seq fun K27 hK27 => ?_
          refine JC.region ?_
          refine J.yl (y_move rfl rfl) rfl rfl rfl ?_
          refine J.yl (y_move rfl rfl) rfl rfl rfl ?_
          refine J.yl (y_move rfl rfl) rfl rfl rfl ?_
          refine J.callR (Cin := []) rfl rfl rfl rfl Tb.cl38 rfl rfl (r14path_fn l a b A n k hn hk (by omega) (fun w h => hA w h.1)) ?_
          rintro ⟨A2, k2⟩ hk2
          refine J.yl (y_move rfl rfl) rfl rfl rfl ?_
          refine J.yl (y_extract rfl rfl rfl) rfl rfl rfl ?_
          refine J.yl (y_extract rfl rfl rfl) rfl rfl rfl ?_
          refine J.yl (y_assign rfl rfl) rfl rfl rfl ?_
          refine J.yl (y_assign rfl rfl) rfl rfl rfl ?_
          refine J.nil ?_
          refine JQ.next hK27 ?_
          refine JC.seq fun K28 hK28 => ?_
          refine JC.region ?_
          refine J.yl (y_move rfl rfl) rfl rfl rfl ?_
          refine J.yl (y_move rfl rfl) rfl rfl rfl ?_
          refine J.yl (y_move rfl rfl) rfl rfl rfl ?_
          refine J.callR (Cin := []) rfl rfl rfl rfl Tb.cl39 rfl rfl (tProof_fn T m n es clock l hM hn (by omega) a b (fun w h => tt_of 6 7 rfl rfl h.2)) ?_
          rintro ⟨A3, k3⟩ hk3
          refine J.yl (y_move rfl rfl) rfl rfl rfl ?_
          refine J.yl (y_extract rfl rfl rfl) rfl rfl rfl ?_
          refine J.yl (y_extract rfl rfl rfl) rfl rfl rfl ?_
          refine J.yl (y_assign rfl rfl) rfl rfl rfl ?_
          refine J.yl (y_assign rfl rfl) rfl rfl rfl ?_
          refine J.nil ?_
          refine JQ.next hK28 ?_
          refine JC.seq fun K29 hK29 => ?_
          refine JC.region ?_
          refine J.yl (y_move rfl rfl) rfl rfl rfl ?_
          refine J.yl (y_move rfl rfl) rfl rfl rfl ?_
          refine J.yl (y_move rfl rfl) rfl rfl rfl ?_
          refine J.callR (Cin := []) rfl rfl rfl rfl Tb.cl40 rfl rfl (r14proof_fn l a b A n k hn hk (by omega) (fun w h => hA w h.1)) ?_
          rintro ⟨A4, k4⟩ hk4
          refine J.yl (y_move rfl rfl) rfl rfl rfl ?_
          refine J.yl (y_extract rfl rfl rfl) rfl rfl rfl ?_
          refine J.yl (y_extract rfl rfl rfl) rfl rfl rfl ?_
          refine J.yl (y_assign rfl rfl) rfl rfl rfl ?_
          refine J.yl (y_assign rfl rfl) rfl rfl rfl ?_
          refine J.nil ?_
          refine JQ.next hK29 ?_
          refine JC.seq fun K30 hK30 => ?_
          refine JC.region ?_
          refine J.yl (y_lbW 7 rfl Tb.ag30 Tb.sz30 (hcl _) rfl rfl) rfl rfl rfl ?_
          refine J.yl (y_lbW 6 rfl Tb.ag30 Tb.sz30 (hcl _) rfl rfl) rfl rfl rfl ?_
          refine J.yl (Yl.to (v' := .bool false) (y_hne rfl Tryd.underlying30 Tryd.underlying5 Tb.ag5 Tb.sz5 Tb.eg30 rfl rfl) (by rw [decide_eq_true rfl]; first | done | rfl)) rfl rfl rfl ?_
          refine J.yl (y_move rfl rfl) rfl rfl rfl ?_
          refine J.gyes (y_move rfl rfl) rfl rfl rfl rfl rfl rfl ?_
          refine J.gyes (y_move rfl rfl) rfl rfl rfl rfl rfl rfl ?_
          refine J.gyes (Yl.to (v' := .bool false) (y_bne rfl Tryd.underlying4 rfl rfl) (by simp)) rfl rfl rfl rfl rfl rfl ?_
          refine J.yl (y_pick rfl rfl (fun h => by cases h) (fun _ => rfl)) rfl rfl rfl ?_
          refine J.yl (y_move rfl rfl) rfl rfl rfl ?_
          refine J.gyes (y_lbW 5 rfl Tb.ag30 Tb.sz30 (hcl _) rfl rfl) rfl rfl rfl rfl rfl rfl ?_
          refine J.gyes (y_lbW 4 rfl Tb.ag30 Tb.sz30 (hcl _) rfl rfl) rfl rfl rfl rfl rfl rfl ?_
          refine J.gyes (Yl.to (v' := .bool false) (y_hne rfl Tryd.underlying30 Tryd.underlying5 Tb.ag5 Tb.sz5 Tb.eg30 rfl rfl) (by rw [decide_eq_true rfl]; first | done | rfl)) rfl rfl rfl rfl rfl rfl ?_
          refine J.yl (y_pick rfl rfl (fun h => by cases h) (fun _ => rfl)) rfl rfl rfl ?_
          refine J.yl (y_move rfl rfl) rfl rfl rfl ?_
          refine J.gyes (y_move rfl rfl) rfl rfl rfl rfl rfl rfl ?_
          refine J.gyes (y_move rfl rfl) rfl rfl rfl rfl rfl rfl ?_
          refine J.gyes (Yl.to (v' := .bool false) (y_ne rfl rfl rfl) (by rw [decide_eq_true rfl]; first | done | rfl)) rfl rfl rfl rfl rfl rfl ?_
          refine J.yl (y_pick rfl rfl (fun h => by cases h) (fun _ => rfl)) rfl rfl rfl ?_
          refine J.yl (y_move rfl rfl) rfl rfl rfl ?_
          refine J.gyes (y_move rfl rfl) rfl rfl rfl rfl rfl rfl ?_
          refine J.gyes (y_move rfl rfl) rfl rfl rfl rfl rfl rfl ?_
          refine J.gon rfl rfl rfl rfl ?_
          refine J.callv rfl rfl rfl rfl Tb.cl26 rfl ((same_fn (tpth l a b) (tpth l a b) A1 A2 _ _ k1 k2 rfl rfl (by omega) (fun w h => ckrow 3 rfl h) (fun w h => ckrow 2 rfl h)).to (by rw [decide_eq_true rfl])) ?_
          refine J.gyes ((y_not rfl rfl).to rfl) rfl rfl rfl rfl rfl rfl ?_
          refine J.yl (y_pick rfl rfl (fun h => by cases h) (fun _ => rfl)) rfl rfl rfl ?_
          refine J.yl (y_move rfl rfl) rfl rfl rfl ?_
          refine J.gyes (y_move rfl rfl) rfl rfl rfl rfl rfl rfl ?_
          refine J.gyes (y_move rfl rfl) rfl rfl rfl rfl rfl rfl ?_
          refine J.gyes (Yl.to (v' := .bool false) (y_ne rfl rfl rfl) (by rw [decide_eq_true rfl]; first | done | rfl)) rfl rfl rfl rfl rfl rfl ?_
          refine J.yl (y_pick rfl rfl (fun h => by cases h) (fun _ => rfl)) rfl rfl rfl ?_
          refine J.yl (y_move rfl rfl) rfl rfl rfl ?_
          refine J.gyes (y_move rfl rfl) rfl rfl rfl rfl rfl rfl ?_
          refine J.gyes (y_move rfl rfl) rfl rfl rfl rfl rfl rfl ?_
          refine J.gon rfl rfl rfl rfl ?_
          refine J.callv rfl rfl rfl rfl Tb.cl26 rfl ((same_fn (tpf l a b) (tpf l a b) A3 A4 _ _ k3 k4 rfl rfl (by omega) (fun w h => ckrow 1 rfl h) (fun w h => ckrow 0 rfl h)).to (by rw [decide_eq_true rfl])) ?_
          refine J.gyes ((y_not rfl rfl).to rfl) rfl rfl rfl rfl rfl rfl ?_
          refine J.yl (y_pick rfl rfl (fun h => by cases h) (fun _ => rfl)) rfl rfl rfl ?_
          refine J.yl (y_move rfl rfl) rfl rfl rfl ?_
          refine J.gyes (y_move rfl rfl) rfl rfl rfl rfl rfl rfl ?_
          refine J.gyes (y_move rfl rfl) rfl rfl rfl rfl rfl rfl ?_
          refine J.gyes (y_ne rfl rfl rfl) rfl rfl rfl rfl rfl rfl ?_
          refine J.yl (y_pick rfl rfl (fun h => by cases h) (fun _ => rfl)) rfl rfl rfl ?_
          refine J.nil ?_
          refine JQ.next hK30 ?_
          refine JC.condn rfl (fun h5 => ?_) (fun h5 => ?_)
          · exact absurd rfl h5
          · refine JC.skip ?_
            refine JQ.block_normal (JQ.next hK13 ?_)
            refine JC.region ?_
            refine J.yl (y_move rfl rfl) rfl rfl rfl ?_
            refine J.yl (y_add64 rfl rfl rfl (by omega)) rfl rfl rfl ?_
            refine J.yl (y_assign rfl rfl) rfl rfl rfl ?_
            refine J.nil ?_
            refine JQ.drop ?_
            refine JQ.drop ?_
            refine JQ.drop ?_
            refine JQ.drop ?_
            refine JQ.drop ?_
            refine JQ.drop ?_
            refine JQ.drop ?_
            refine JQ.drop ?_
            refine againK10 (q + 1) _ (by omega) (by omega) (okE_cons (slotI (by omega)) okE_nil) (okE_cons rfl (okE_cons rfl (okE_cons rfl okE_nil)))
    · refine JC.exit ?_
      refine JQ.then_exit (JQ.then_exit (JQ.block_hit (JQ.next hK8 ?_)))
      refine JC.seq fun K31 hK31 => ?_
      refine JC.region ?_
      refine J.callv rfl rfl rfl rfl Tb.cl31 rfl (tiled_fn) ?_
      refine J.yl (y_assign rfl rfl) rfl rfl rfl ?_
      refine J.nil ?_
      refine JQ.next hK31 ?_
      refine JC.ret ?_
      exact ret1 rfl (r_tmp rfl) fun w hs => Post.pure hs
end Go.Proofs.YtjkfeonbioccmaaDoor
