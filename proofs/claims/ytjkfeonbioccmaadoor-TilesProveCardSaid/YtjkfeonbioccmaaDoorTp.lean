/- Speculum proofs: TilesProve, walked: what tiles tell proves: each path of each leaf among any first ones, and each proof, is checked against the roots that they tell, which are those of the leaves. -/
import Derived.Test.YtjkfeonbioccmaaDoorTk
import Derived.Test.YtjkfeonbioccmaaDoorTo
import Derived.Test.YtjkfeonbioccmaaDoorFd
import Derived.Test.YtjkfeonbioccmaaDoorSxTwo
namespace Go.Proofs.YtjkfeonbioccmaaDoor
open Go Go.Sx Go.RowKit
set_option linter.unusedVariables false
set_option linter.unusedSimpArgs false
set_option maxRecDepth 100000
set_option maxHeartbeats 4000000
variable {Gl F : World → Prop}
theorem law_TilesProve (l : List H) (y z : UInt8) (A : Option Addr) (n k : Nat) (hn : l.length = n) (hk : n ≤ k) (hA : ∀ w, F w → Sl w A (hcs l)) :
    PureFn Tryd.prog Gs 15 [.slice A n k, u8 y, u8 z] F (.bool true) := by
  refine FnSpec.intro Tryd.func15 rfl Tryd.ntmps15 rfl fun X M w => ?_
  refine JC.seq fun K1 hK1 => ?_
  refine JC.region ?_
  refine J.yl (y_assign rfl rfl) rfl rfl rfl ?_
  refine J.nil ?_
  refine JQ.next hK1 ?_
  refine JC.seq fun K2 hK2 => ?_
  refine JC.seq fun K3 hK3 => ?_
  refine JC.region ?_
  refine J.yl (y_move rfl rfl) rfl rfl rfl ?_
  refine J.yl (y_len rfl Tryd.underlying22 rfl) rfl rfl rfl ?_
  refine J.yl (y_gt rfl rfl rfl) rfl rfl rfl ?_
  refine J.nil ?_
  refine JQ.next hK3 ?_
  refine JC.condp rfl (fun h1 => ?_) (fun h1 => ?_)
  · refine JC.seq fun K4 hK4 => ?_
    refine JC.region ?_
    refine J.callv rfl rfl rfl rfl Tb.cl31 rfl (tiled_fn) ?_
    refine J.yl (y_assign rfl rfl) rfl rfl rfl ?_
    refine J.nil ?_
    refine JQ.next hK4 ?_
    refine JC.ret ?_
    refine JQ.then_ret ?_
    exact ret1 rfl (r_tmp rfl) fun w hs => Post.pure hs
  · obtain ⟨b, hb, hbn⟩ : ∃ b, y.toNat % (n + 1) = b ∧ b ≤ n := ⟨_, rfl, by have := Nat.mod_lt y.toNat (show 0 < n + 1 by omega); omega⟩
    have hz8 := z.toNat_lt
    have hlb : (l.take b).length = b := by rw [List.length_take]; omega
    have htr : ∀ q : Nat, q ≤ n → trt l (q : Int) = root (l.take q) := fun q hq => by rw [trt, if_neg (by omega), Int.toNat_natCast]
    have hwE : ∀ q : Nat, q ≤ n → wthE n (q : Int) = 0 := fun q hq => if_neg (by omega)
    refine JC.skip ?_
    refine JQ.next hK2 ?_
    refine JC.seq fun K5 hK5 => ?_
    refine JC.region ?_
    refine J.yl (y_move rfl rfl) rfl rfl rfl ?_
    refine J.callR (Cin := []) rfl rfl rfl rfl Tb.cl32 rfl rfl (of_fn l A n k hn hk (by omega) (fun w h => hA w h.1)) ?_
    rintro ⟨T, m, es, clock⟩ hM
    refine J.yl (y_move rfl rfl) rfl rfl rfl ?_
    refine J.yl (y_extract rfl rfl rfl) rfl rfl rfl ?_
    refine J.yl (y_extract rfl rfl rfl) rfl rfl rfl ?_
    refine J.yl (y_assign rfl rfl) rfl rfl rfl ?_
    refine J.yl (y_assign rfl rfl) rfl rfl rfl ?_
    refine J.nil ?_
    refine JQ.next hK5 ?_
    refine JC.seq fun K6 hK6 => ?_
    refine JC.seq fun K7 hK7 => ?_
    refine JC.region ?_
    refine J.yl (y_move rfl rfl) rfl rfl rfl ?_
    refine J.yl ((y_not rfl rfl).to rfl) rfl rfl rfl ?_
    refine J.nil ?_
    refine JQ.next hK7 ?_
    refine JC.no rfl ?_
    refine JC.skip ?_
    refine JQ.next hK6 ?_
    refine JC.seq fun K8 hK8 => ?_
    refine JC.region ?_
    refine J.yl (y_move rfl rfl) rfl rfl rfl ?_
    refine J.yl (y_8toi rfl (isS Tryd.underlying5) Tryd.underlying3 rfl) rfl rfl rfl ?_
    refine J.yl (y_move rfl rfl) rfl rfl rfl ?_
    refine J.yl (y_len rfl Tryd.underlying22 rfl) rfl rfl rfl ?_
    refine J.yl (y_add64 rfl rfl rfl (by omega)) rfl rfl rfl ?_
    refine J.yl ((y_remN y.toNat (n + 1) rfl rfl rfl rfl (by omega) (by omega)).to (by rw [hb])) rfl rfl rfl ?_
    refine J.yl (y_assign rfl rfl) rfl rfl rfl ?_
    refine J.nil ?_
    refine JQ.next hK8 ?_
    refine JC.seq fun K9 hK9 => ?_
    refine JC.region ?_
    refine J.yl (y_move rfl rfl) rfl rfl rfl ?_
    refine J.yl (y_move rfl rfl) rfl rfl rfl ?_
    refine J.callv rfl rfl rfl rfl Tb.cl35 rfl (tRoot_fnE T m n es clock l hM hn (by omega) b (root (l.take b)) 0 (htr b hbn) (hwE b hbn) (fun w h => tt_of 0 1 rfl rfl h.2)) ?_
    refine J.yl (y_move rfl rfl) rfl rfl rfl ?_
    refine J.yl (y_extract rfl rfl rfl) rfl rfl rfl ?_
    refine J.yl (y_extract rfl rfl rfl) rfl rfl rfl ?_
    refine J.alloc rfl rfl rfl rfl Tb.zz30 rfl fun g10 => ?_
    refine J.storeW 0 rfl rfl rfl rfl rfl rfl rfl Tb.sz30 (hcl _) (hcl _) (hc1 _) ?_
    refine J.yl (y_assign rfl rfl) rfl rfl rfl ?_
    refine J.nil ?_
    refine JQ.next hK9 ?_
    refine JC.seq fun K10 hK10 => ?_
    refine JC.seq fun K11 hK11 => ?_
    refine JC.drawM [true, true, true] (by kernel_rfl) ?_
    refine D.take 0 (y_move rfl rfl) rfl rfl rfl rfl (by kernel_rfl) (by kernel_rfl) (by kernel_rfl) (PQ.next (PQ.next PQ.body)) ?_
    refine D.take 1 ((y_ne rfl rfl rfl).to rfl) rfl rfl rfl rfl (by kernel_rfl) (by kernel_rfl) (by kernel_rfl) (PQ.next (PQ.next PQ.body)) ?_
    refine D.take 2 (y_move rfl rfl) rfl rfl rfl rfl (by kernel_rfl) (by kernel_rfl) (by kernel_rfl) (PQ.next (PQ.next PQ.body)) ?_
    refine D.takeG 3 (y_lbW 0 rfl Tb.ag30 Tb.sz30 (hcl _) rfl rfl) rfl rfl rfl rfl rfl rfl rfl (by kernel_rfl) (by kernel_rfl) (by kernel_rfl) (PQ.next (PQ.next PQ.body)) ?_
    refine D.takeG 4 (y_move rfl rfl) rfl rfl rfl rfl rfl rfl rfl (by kernel_rfl) (by kernel_rfl) (by kernel_rfl) (PQ.next (PQ.next PQ.body)) ?_
    refine D.takeG 5 (y_move rfl rfl) rfl rfl rfl rfl rfl rfl rfl (by kernel_rfl) (by kernel_rfl) (by kernel_rfl) (PQ.next (PQ.next PQ.body)) ?_
    refine D.takeG 6 (y_cuttoN b rfl Tryd.underlying22 Tb.sz30 rfl rfl rfl (by omega)) rfl rfl rfl rfl rfl rfl rfl (by kernel_rfl) (by kernel_rfl) (by kernel_rfl) (PQ.next (PQ.next PQ.body)) ?_
    refine D.ofJ 7 (by kernel_rfl) rfl fun KhK13 hK13 => ?_
    refine J.gon rfl rfl rfl rfl ?_
    refine J.callv rfl rfl rfl rfl Tb.cl30 rfl (root_spec (l.take b) A b k hlb (by omega) (by omega) (fun w h => (hA w h.1).htake b)) ?_
    refine J.nil ?_
    refine hK13 _ _ _ (fun w hs => hs.mask [true, true, true]) ?_
    refine D.takeG 8 (y_hne rfl Tryd.underlying30 Tryd.underlying5 Tb.ag5 Tb.sz5 Tb.eg30 rfl rfl) rfl rfl rfl rfl rfl rfl rfl (by kernel_rfl) (by kernel_rfl) (by kernel_rfl) (PQ.next (PQ.next PQ.body)) ?_
    refine D.take 9 (y_pick rfl rfl (fun h => by cases h) (fun _ => rfl)) rfl rfl rfl rfl (by kernel_rfl) (by kernel_rfl) (by kernel_rfl) (PQ.next (PQ.next PQ.body)) ?_
    refine D.done (by kernel_rfl) ?_
    refine JQ.next hK11 ?_
    refine JC.condn rfl (fun h2 => ?_) (fun h2 => ?_)
    · exact absurd rfl h2
    · refine JC.skip ?_
      refine JQ.next hK10 ?_
      refine JC.seq fun K14 hK14 => ?_
      refine JC.seq fun K15 hK15 => ?_
      refine JC.region ?_
      refine J.yl (y_assign rfl rfl) rfl rfl rfl ?_
      refine J.nil ?_
      refine JQ.next hK15 ?_
      refine JC.block ?_
      refine JC.loopE (σ := Nat) (M := fun q => [(12, .int .i64 (q : Int))]) (kp := [(0, _), (2, _), (7, _), (9, _), (10, _)]) (hkp := (okE_cons rfl (okE_cons rfl (okE_cons rfl (okE_cons rfl (okE_cons rfl okE_nil)))))) (Dc := fun _ => .box g10 30 (hc (root (l.take b))) :: Tc T m n es clock) (H := fun _ => F) (Ψ := fun q => q ≤ b) (μ := fun q => b - q) 0 (by omega) (okE_cons rfl okE_nil) (fun w h => h) (fun q hq K16 againK16 => ?_)
      refine JC.seq fun K17 hK17 => ?_
      refine JC.seq fun K18 hK18 => ?_
      refine JC.region ?_
      refine J.yl (y_move rfl rfl) rfl rfl rfl ?_
      refine J.yl (y_move rfl rfl) rfl rfl rfl ?_
      refine J.yl (y_lt rfl rfl rfl) rfl rfl rfl ?_
      refine J.nil ?_
      refine JQ.next hK18 ?_
      refine JC.condp rfl (fun h3 => ?_) (fun h3 => ?_)
      · obtain ⟨x, hx⟩ : ∃ x, l[q]? = some x := ⟨_, List.getElem?_eq_getElem (show q < l.length by omega)⟩
        have hp : tpth l q b = pth (l.take b) q := by
          rw [tpth, pth, if_neg (by omega), hlb, if_neg (by omega), Int.toNat_natCast]
        have hpE : tpthE l q b = 0 := by rw [tpthE, if_neg (by omega)]
        have hle : (tpth l q b).length ≤ 4096 := tpth_le l q b (by omega)
        have hck := pchk_path (l.take b) q x (by rw [List.getElem?_take_of_lt (by omega)]; exact hx) (by omega)
        rw [hlb, ← hp] at hck
        refine JC.skip ?_
        refine JQ.next hK17 ?_
        refine JC.seq fun K19 hK19 => ?_
        refine JC.block ?_
        refine JC.seq fun K20 hK20 => ?_
        refine JC.region ?_
        refine J.yl (y_move rfl rfl) rfl rfl rfl ?_
        refine J.yl (y_move rfl rfl) rfl rfl rfl ?_
        refine J.yl (y_move rfl rfl) rfl rfl rfl ?_
        refine J.callR (Cin := []) rfl rfl rfl rfl Tb.cl37 rfl rfl (tPath_fnE T m n es clock l hM hn (by omega) q b (tpth l q b) 0 rfl hpE (fun w h => tt_of 1 2 rfl rfl h.2)) ?_
        rintro ⟨A1, k1⟩ hk1
        refine J.yl (y_move rfl rfl) rfl rfl rfl ?_
        refine J.yl (y_extract rfl rfl rfl) rfl rfl rfl ?_
        refine J.yl (y_extract rfl rfl rfl) rfl rfl rfl ?_
        refine J.yl (y_assign rfl rfl) rfl rfl rfl ?_
        refine J.yl (y_assign rfl rfl) rfl rfl rfl ?_
        refine J.nil ?_
        refine JQ.next hK20 ?_
        refine JC.seq fun K21 hK21 => ?_
        refine JC.drawM [true, true, true, true] (by kernel_rfl) ?_
        refine D.take 0 (y_move rfl rfl) rfl rfl rfl rfl (by kernel_rfl) (by kernel_rfl) (by kernel_rfl) (PQ.next (PQ.block (PQ.next (PQ.next (PQ.block (PQ.next PQ.body)))))) ?_
        refine D.take 1 ((y_ne rfl rfl rfl).to rfl) rfl rfl rfl rfl (by kernel_rfl) (by kernel_rfl) (by kernel_rfl) (PQ.next (PQ.block (PQ.next (PQ.next (PQ.block (PQ.next PQ.body)))))) ?_
        refine D.take 2 (y_move rfl rfl) rfl rfl rfl rfl (by kernel_rfl) (by kernel_rfl) (by kernel_rfl) (PQ.next (PQ.block (PQ.next (PQ.next (PQ.block (PQ.next PQ.body)))))) ?_
        refine D.takeG 3 (y_move rfl rfl) rfl rfl rfl rfl rfl rfl rfl (by kernel_rfl) (by kernel_rfl) (by kernel_rfl) (PQ.next (PQ.block (PQ.next (PQ.next (PQ.block (PQ.next PQ.body)))))) ?_
        refine D.takeG 4 (y_move rfl rfl) rfl rfl rfl rfl rfl rfl rfl (by kernel_rfl) (by kernel_rfl) (by kernel_rfl) (PQ.next (PQ.block (PQ.next (PQ.next (PQ.block (PQ.next PQ.body)))))) ?_
        refine D.takeG 7 (y_move rfl rfl) rfl rfl rfl rfl rfl rfl rfl (by kernel_rfl) (by kernel_rfl) (by kernel_rfl) (PQ.next (PQ.block (PQ.next (PQ.next (PQ.block (PQ.next PQ.body)))))) ?_
        refine D.takeG 8 (y_move rfl rfl) rfl rfl rfl rfl rfl rfl rfl (by kernel_rfl) (by kernel_rfl) (by kernel_rfl) (PQ.next (PQ.block (PQ.next (PQ.next (PQ.block (PQ.next PQ.body)))))) ?_
        refine D.takeG 9 (y_move rfl rfl) rfl rfl rfl rfl rfl rfl rfl (by kernel_rfl) (by kernel_rfl) (by kernel_rfl) (PQ.next (PQ.block (PQ.next (PQ.next (PQ.block (PQ.next PQ.body)))))) ?_
        refine D.takeG 10 (y_lbW 1 rfl Tb.ag30 Tb.sz30 (hcl _) rfl rfl) rfl rfl rfl rfl rfl rfl rfl (by kernel_rfl) (by kernel_rfl) (by kernel_rfl) (PQ.next (PQ.block (PQ.next (PQ.next (PQ.block (PQ.next PQ.body)))))) ?_
        refine D.takeG 5 (y_hidx q rfl Tryd.underlying22 Tb.sz30 rfl rfl rfl hn (by omega) (fun w hs => hA w hs.fact)) rfl rfl rfl rfl rfl rfl rfl (by kernel_rfl) (by kernel_rfl) (by kernel_rfl) (PQ.next (PQ.block (PQ.next (PQ.next (PQ.block (PQ.next PQ.body)))))) ?_
        refine D.takeG 6 (y_hld x rfl Tb.ag30 Tb.sz30 rfl hx (fun w hs => hA w hs.fact)) rfl rfl rfl rfl rfl rfl rfl (by kernel_rfl) (by kernel_rfl) (by kernel_rfl) (PQ.next (PQ.block (PQ.next (PQ.next (PQ.block (PQ.next PQ.body)))))) ?_
        refine D.ofJ 11 (by kernel_rfl) rfl fun KhK23 hK23 => ?_
        refine J.gon rfl rfl rfl rfl ?_
        refine J.callv rfl rfl rfl rfl Tb.cl73 rfl ((pcheck_fn x q b (tpth l q b) (root (l.take b)) A1 _ k1 rfl hk1 (by omega) (fun w h => ckrow 0 rfl h)).to (by rw [hck])) ?_
        refine J.nil ?_
        refine hK23 _ _ _ (fun w hs => hs.mask [true, true, true, true]) ?_
        refine D.takeG 12 (y_ne rfl rfl rfl) rfl rfl rfl rfl rfl rfl rfl (by kernel_rfl) (by kernel_rfl) (by kernel_rfl) (PQ.next (PQ.block (PQ.next (PQ.next (PQ.block (PQ.next PQ.body)))))) ?_
        refine D.take 13 (y_pick rfl rfl (fun h => by cases h) (fun _ => rfl)) rfl rfl rfl rfl (by kernel_rfl) (by kernel_rfl) (by kernel_rfl) (PQ.next (PQ.block (PQ.next (PQ.next (PQ.block (PQ.next PQ.body)))))) ?_
        refine D.done (by kernel_rfl) ?_
        refine JQ.next hK21 ?_
        refine JC.condn rfl (fun h4 => ?_) (fun h4 => ?_)
        · exact absurd rfl h4
        · refine JC.skip ?_
          refine JQ.block_normal (JQ.next hK19 ?_)
          refine JC.region ?_
          refine J.yl (y_move rfl rfl) rfl rfl rfl ?_
          refine J.yl (y_add64 rfl rfl rfl (by omega)) rfl rfl rfl ?_
          refine J.yl (y_assign rfl rfl) rfl rfl rfl ?_
          refine J.nil ?_
          refine JQ.drop ?_
          refine againK16 (q + 1) _ (by omega) (by omega) (okE_cons (slotI (by omega)) okE_nil) (okE_cons rfl (okE_cons rfl (okE_cons rfl (okE_cons rfl (okE_cons rfl okE_nil)))))
      · refine JC.exit ?_
        refine JQ.then_exit (JQ.then_exit (JQ.block_hit (JQ.next hK14 ?_)))
        refine JC.seq fun K24 hK24 => ?_
        refine JC.seq fun K25 hK25 => ?_
        refine JC.region ?_
        refine J.yl (y_assign rfl rfl) rfl rfl rfl ?_
        refine J.nil ?_
        refine JQ.next hK25 ?_
        refine JC.block ?_
        refine JC.loopE (σ := Nat) (M := fun q => [(15, .int .i64 (q : Int))]) (kp := [(0, _), (2, _), (7, _), (9, _), (10, _)]) (hkp := (okE_cons rfl (okE_cons rfl (okE_cons rfl (okE_cons rfl (okE_cons rfl okE_nil)))))) (Dc := fun _ => .box g10 30 (hc (root (l.take b))) :: Tc T m n es clock) (H := fun _ => F) (Ψ := fun q => q ≤ b + 1) (μ := fun q => b + 1 - q) 0 (by omega) (okE_cons rfl okE_nil) (fun w h => h) (fun q hq K26 againK26 => ?_)
        refine JC.seq fun K27 hK27 => ?_
        refine JC.seq fun K28 hK28 => ?_
        refine JC.region ?_
        refine J.yl (y_move rfl rfl) rfl rfl rfl ?_
        refine J.yl (y_move rfl rfl) rfl rfl rfl ?_
        refine J.yl (y_le rfl rfl rfl) rfl rfl rfl ?_
        refine J.nil ?_
        refine JQ.next hK28 ?_
        refine JC.condp rfl (fun h5 => ?_) (fun h5 => ?_)
        · have hqb : q ≤ b := by omega
          have hp : tpf l q b = prf (l.take b) q := (prf_tpf l q b (by omega) (by omega)).1.symm
          have hpE : tpfE l q b = 0 := by rw [tpfE, if_neg (by omega)]
          have hck := chk_prf (l.take b) q (by omega) (by omega)
          rw [hlb, ← hp, List.take_take, Nat.min_eq_left hqb] at hck
          refine JC.skip ?_
          refine JQ.next hK27 ?_
          refine JC.seq fun K29 hK29 => ?_
          refine JC.block ?_
          refine JC.seq fun K30 hK30 => ?_
          refine JC.region ?_
          refine J.yl (y_move rfl rfl) rfl rfl rfl ?_
          refine J.yl (y_move rfl rfl) rfl rfl rfl ?_
          refine J.callv rfl rfl rfl rfl Tb.cl35 rfl (tRoot_fnE T m n es clock l hM hn (by omega) q (root (l.take q)) 0 (htr q (by omega)) (hwE q (by omega)) (fun w h => tt_of 1 2 rfl rfl h.2)) ?_
          refine J.yl (y_move rfl rfl) rfl rfl rfl ?_
          refine J.yl (y_extract rfl rfl rfl) rfl rfl rfl ?_
          refine J.yl (y_extract rfl rfl rfl) rfl rfl rfl ?_
          refine J.alloc rfl rfl rfl rfl Tb.zz30 rfl fun g16 => ?_
          refine J.storeW 0 rfl rfl rfl rfl rfl rfl rfl Tb.sz30 (hcl _) (hcl _) (hc1 _) ?_
          refine J.yl (y_assign rfl rfl) rfl rfl rfl ?_
          refine J.nil ?_
          refine JQ.next hK30 ?_
          refine JC.seq fun K31 hK31 => ?_
          refine JC.region ?_
          refine J.yl (y_move rfl rfl) rfl rfl rfl ?_
          refine J.yl (y_move rfl rfl) rfl rfl rfl ?_
          refine J.yl (y_move rfl rfl) rfl rfl rfl ?_
          refine J.callR (Cin := []) rfl rfl rfl rfl Tb.cl39 rfl rfl (tProof_fnE T m n es clock l hM hn (by omega) q b (tpf l q b) 0 rfl hpE (fun w h => tt_of 2 3 rfl rfl h.2)) ?_
          rintro ⟨A1, k1⟩ hk1
          refine J.yl (y_move rfl rfl) rfl rfl rfl ?_
          refine J.yl (y_extract rfl rfl rfl) rfl rfl rfl ?_
          refine J.yl (y_extract rfl rfl rfl) rfl rfl rfl ?_
          refine J.yl (y_assign rfl rfl) rfl rfl rfl ?_
          refine J.yl (y_assign rfl rfl) rfl rfl rfl ?_
          refine J.nil ?_
          refine JQ.next hK31 ?_
          refine JC.seq fun K32 hK32 => ?_
          refine JC.region ?_
          refine J.yl (y_move rfl rfl) rfl rfl rfl ?_
          refine J.yl ((y_ne rfl rfl rfl).to rfl) rfl rfl rfl ?_
          refine J.yl (y_move rfl rfl) rfl rfl rfl ?_
          refine J.gyes (y_move rfl rfl) rfl rfl rfl rfl rfl rfl ?_
          refine J.gyes ((y_ne rfl rfl rfl).to rfl) rfl rfl rfl rfl rfl rfl ?_
          refine J.yl (y_pick rfl rfl (fun h => by cases h) (fun _ => rfl)) rfl rfl rfl ?_
          refine J.yl (y_move rfl rfl) rfl rfl rfl ?_
          refine J.gyes (y_move rfl rfl) rfl rfl rfl rfl rfl rfl ?_
          refine J.gyes (y_move rfl rfl) rfl rfl rfl rfl rfl rfl ?_
          refine J.gyes (y_lbW 1 rfl Tb.ag30 Tb.sz30 (hcl _) rfl rfl) rfl rfl rfl rfl rfl rfl ?_
          refine J.gyes (y_lbW 2 rfl Tb.ag30 Tb.sz30 (hcl _) rfl rfl) rfl rfl rfl rfl rfl rfl ?_
          refine J.gyes (y_move rfl rfl) rfl rfl rfl rfl rfl rfl ?_
          refine J.gon rfl rfl rfl rfl ?_
          refine J.callv rfl rfl rfl rfl Tb.cl27 rfl ((check_fn q b (root (l.take q)) (root (l.take b)) (tpf l q b) A1 _ k1 rfl hk1 (fun w h => ckrow 0 rfl h)).to (by rw [hck])) ?_
          refine J.gyes (y_ne rfl rfl rfl) rfl rfl rfl rfl rfl rfl ?_
          refine J.yl (y_pick rfl rfl (fun h => by cases h) (fun _ => rfl)) rfl rfl rfl ?_
          refine J.nil ?_
          refine JQ.next hK32 ?_
          refine JC.condn rfl (fun h6 => ?_) (fun h6 => ?_)
          · exact absurd rfl h6
          · refine JC.skip ?_
            refine JQ.block_normal (JQ.next hK29 ?_)
            refine JC.region ?_
            refine J.yl (y_move rfl rfl) rfl rfl rfl ?_
            refine J.yl (y_add64 rfl rfl rfl (by omega)) rfl rfl rfl ?_
            refine J.yl (y_assign rfl rfl) rfl rfl rfl ?_
            refine J.nil ?_
            refine JQ.drop ?_
            refine JQ.drop ?_
            refine againK26 (q + 1) _ (by omega) (by omega) (okE_cons (slotI (by omega)) okE_nil) (okE_cons rfl (okE_cons rfl (okE_cons rfl (okE_cons rfl (okE_cons rfl okE_nil)))))
        · have hpE : tpthE l b b = 82 := by rw [tpthE, if_pos (by omega)]
          have hrE : wthE n ((n : Int) + 1 + (z.toNat : Int)) = 82 := if_pos (by omega)
          refine JC.exit ?_
          refine JQ.then_exit (JQ.then_exit (JQ.block_hit (JQ.next hK24 ?_)))
          refine JC.seq fun K33 hK33 => ?_
          refine JC.region ?_
          refine J.yl (y_move rfl rfl) rfl rfl rfl ?_
          refine J.yl (y_move rfl rfl) rfl rfl rfl ?_
          refine J.yl (y_move rfl rfl) rfl rfl rfl ?_
          refine J.callR (Cin := []) rfl rfl rfl rfl Tb.cl37 rfl rfl (tPath_fnE T m n es clock l hM hn (by omega) b b (tpth l b b) 82 rfl hpE (fun w h => tt_of 1 2 rfl rfl h.2)) ?_
          rintro ⟨A1, k1⟩ hk1
          refine J.yl (y_move rfl rfl) rfl rfl rfl ?_
          refine J.yl (y_extract rfl rfl rfl) rfl rfl rfl ?_
          refine J.yl (y_extract rfl rfl rfl) rfl rfl rfl ?_
          refine J.yl (y_assign rfl rfl) rfl rfl rfl ?_
          refine J.yl (y_assign rfl rfl) rfl rfl rfl ?_
          refine J.nil ?_
          refine JQ.next hK33 ?_
          refine JC.seq fun K34 hK34 => ?_
          refine JC.region ?_
          refine J.yl (y_move rfl rfl) rfl rfl rfl ?_
          refine J.yl (y_move rfl rfl) rfl rfl rfl ?_
          refine J.yl (y_len rfl Tryd.underlying22 rfl) rfl rfl rfl ?_
          refine J.yl (y_add64 rfl rfl rfl (by omega)) rfl rfl rfl ?_
          refine J.yl (y_move rfl rfl) rfl rfl rfl ?_
          refine J.yl (y_8toi rfl (isS Tryd.underlying5) Tryd.underlying3 rfl) rfl rfl rfl ?_
          refine J.yl (y_add64 rfl rfl rfl (by omega)) rfl rfl rfl ?_
          refine J.callv rfl rfl rfl rfl Tb.cl35 rfl (tRoot_fnE T m n es clock l hM hn (by omega) ((n : Int) + 1 + (z.toNat : Int)) _ 82 rfl hrE (fun w h => tt_of 2 3 rfl rfl h.2)) ?_
          refine J.yl (y_move rfl rfl) rfl rfl rfl ?_
          refine J.yl (y_extract rfl rfl rfl) rfl rfl rfl ?_
          refine J.yl (y_extract rfl rfl rfl) rfl rfl rfl ?_
          refine J.alloc rfl rfl rfl rfl Tb.zz30 rfl fun g22 => ?_
          refine J.storeW 0 rfl rfl rfl rfl rfl rfl rfl Tb.sz30 (hcl _) (hcl _) (hc1 _) ?_
          refine J.yl (y_assign rfl rfl) rfl rfl rfl ?_
          refine J.nil ?_
          refine JQ.next hK34 ?_
          refine JC.seq fun K35 hK35 => ?_
          refine JC.region ?_
          refine J.yl (y_move rfl rfl) rfl rfl rfl ?_
          refine J.yl ((y_eq rfl rfl rfl).to rfl) rfl rfl rfl ?_
          refine J.yl (y_move rfl rfl) rfl rfl rfl ?_
          refine J.gyes (y_move rfl rfl) rfl rfl rfl rfl rfl rfl ?_
          refine J.gyes ((y_eq rfl rfl rfl).to rfl) rfl rfl rfl rfl rfl rfl ?_
          refine J.yl (y_pick rfl rfl (fun _ => rfl) (fun h => by cases h)) rfl rfl rfl ?_
          refine J.yl (y_move rfl rfl) rfl rfl rfl ?_
          refine J.gon rfl rfl rfl rfl ?_
          refine J.callv rfl rfl rfl rfl Tb.cl31 rfl (tiled_fn) ?_
          refine J.yl (y_pick rfl rfl (fun _ => rfl) (fun h => by cases h)) rfl rfl rfl ?_
          refine J.yl (y_assign rfl rfl) rfl rfl rfl ?_
          refine J.nil ?_
          refine JQ.next hK35 ?_
          refine JC.ret ?_
          exact ret1 rfl (r_tmp rfl) fun w hs => Post.pure hs
end Go.Proofs.YtjkfeonbioccmaaDoor
