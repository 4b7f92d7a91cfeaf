/- Speculum proofs: TilesLater, walked: what was told of the first leaves is told whatever comes behind; a copy goes on by itself. -/
import Derived.Test.YtjkfeonbioccmaaDoorTm
import Derived.Test.YtjkfeonbioccmaaDoorTk
import Derived.Test.YtjkfeonbioccmaaDoorSxTwo
namespace Go.Proofs.YtjkfeonbioccmaaDoor
open Go Go.Sx Go.RowKit
set_option linter.unusedVariables false
set_option linter.unusedSimpArgs false
set_option maxRecDepth 100000
set_option maxHeartbeats 4000000
variable {Gl F : World → Prop}
theorem trt_app (l mo : List H) (z : Nat) (h : z ≤ l.length) : trt (l ++ mo) z = trt l z := by
  rw [trt, trt, if_neg (by rw [List.length_append]; omega), if_neg (by omega), Int.toNat_natCast, List.take_append_of_le_length h]
theorem tpth_app (l mo : List H) (i z : Nat) (h : z ≤ l.length) : tpth (l ++ mo) i z = tpth l i z := by
  unfold tpth
  rw [List.length_append, Int.toNat_natCast, List.take_append_of_le_length h]
  by_cases h2 : z ≤ i
  · rw [if_pos (by omega), if_pos (by omega)]
  · rw [if_neg (by omega), if_neg (by omega)]
theorem tpf_app (l mo : List H) (i z : Nat) (h : z ≤ l.length) : tpf (l ++ mo) i z = tpf l i z := by
  unfold tpf
  rw [List.length_append, Int.toNat_natCast, List.take_append_of_le_length h]
  by_cases h2 : i = 0 ∨ z < i
  · rw [if_pos (by omega), if_pos (by omega)]
  · rw [if_neg (by omega), if_neg (by omega)]
theorem law_TilesLater (l mo : List H) (x y : UInt8) (A B : Option Addr) (n k p kp : Nat) (hn : l.length = n) (hk : n ≤ k) (hp : mo.length = p) (hkp : p ≤ kp) (hA : ∀ w, F w → Sl w A (hcs l)) (hB : ∀ w, F w → Sl w B (hcs mo)) :
    PureFn Tryd.prog Gs 10 [.slice A n k, .slice B p kp, kv8 x y] F (.bool true) := by
  refine FnSpec.intro Tryd.func10 rfl Tryd.ntmps10 rfl fun X M w => ?_
  refine JC.seq fun K1 hK1 => ?_
  refine JC.region ?_
  refine J.box rfl rfl rfl rfl rfl rfl fun g5 => ?_
  refine J.yl (y_assign rfl rfl) rfl rfl rfl ?_
  refine J.nil ?_
  refine JQ.next hK1 ?_
  refine JC.seq fun K2 hK2 => ?_
  refine JC.seq fun K3 hK3 => ?_
  refine JC.region ?_
  refine J.yl (y_move rfl rfl) rfl rfl rfl ?_
  refine J.yl (y_len rfl Tryd.underlying22 rfl) rfl rfl rfl ?_
  refine J.ylp (y_gt rfl rfl rfl) rfl rfl rfl (fun h1 => ?_) (fun h1 => ?_)
  · refine J.yl (y_move rfl rfl) rfl rfl rfl ?_
    refine J.gno (b := true) rfl rfl rfl rfl rfl rfl ?_
    refine J.gno (b := true) rfl rfl rfl rfl rfl rfl ?_
    refine J.gno (b := true) rfl rfl rfl rfl rfl rfl ?_
    refine J.yl (y_pick rfl rfl (fun _ => rfl) (fun h => by cases h)) rfl rfl rfl ?_
    refine J.nil ?_
    refine JQ.next hK3 ?_
    refine JC.yes rfl ?_
    refine JC.seq fun K4 hK4 => ?_
    refine JC.region ?_
    refine J.callv rfl rfl rfl rfl Tb.cl31 rfl (tiled_fn) ?_
    refine J.yl (y_assign rfl rfl) rfl rfl rfl ?_
    refine J.nil ?_
    refine JQ.next hK4 ?_
    refine JC.ret ?_
    refine JQ.then_ret ?_
    exact ret1 rfl (r_tmp rfl) fun w hs => Post.pure hs
  · refine J.yl (y_move rfl rfl) rfl rfl rfl ?_
    refine J.gyes (y_move rfl rfl) rfl rfl rfl rfl rfl rfl ?_
    refine J.gyes (y_len rfl Tryd.underlying22 rfl) rfl rfl rfl rfl rfl rfl ?_
    refine J.gyes (y_gt rfl rfl rfl) rfl rfl rfl rfl rfl rfl ?_
    refine J.yl (y_pick rfl rfl (fun h => by cases h) (fun _ => rfl)) rfl rfl rfl ?_
    refine J.nil ?_
    refine JQ.next hK3 ?_
    refine JC.condp rfl (fun h2 => ?_) (fun h2 => ?_)
    · refine JC.seq fun K5 hK5 => ?_
      refine JC.region ?_
      refine J.callv rfl rfl rfl rfl Tb.cl31 rfl (tiled_fn) ?_
      refine J.yl (y_assign rfl rfl) rfl rfl rfl ?_
      refine J.nil ?_
      refine JQ.next hK5 ?_
      refine JC.ret ?_
      refine JQ.then_ret ?_
      exact ret1 rfl (r_tmp rfl) fun w hs => Post.pure hs
    · obtain ⟨b, hb, hbn⟩ : ∃ b, y.toNat % (n + 1) = b ∧ b ≤ n := ⟨_, rfl, by have := Nat.mod_lt y.toNat (show 0 < n + 1 by omega); omega⟩
      obtain ⟨a, ha, hab⟩ : ∃ a, x.toNat % (b + 1) = a ∧ a ≤ b := ⟨_, rfl, by have := Nat.mod_lt x.toNat (show 0 < b + 1 by omega); omega⟩
      have hE1 : wthE n (b : Int) = 0 := if_neg (by omega)
      have hE2 : wthE (n + p) (b : Int) = 0 := if_neg (by omega)
      have hq1 := tpth_le l a b (by omega)
      have hq2 := tpf_le l a b (by omega)
      have ht2 := trt_app l mo b (by omega)
      have hp2 := tpth_app l mo a b (by omega)
      have hf2 := tpf_app l mo a b (by omega)
      have hpE : tpthE (l ++ mo) a b = tpthE l a b := by
        unfold tpthE
        rw [List.length_append]
        by_cases h2 : b ≤ a
        · rw [if_pos (by omega), if_pos (by omega)]
        · rw [if_neg (by omega), if_neg (by omega)]
      have hfE : tpfE (l ++ mo) a b = tpfE l a b := by
        unfold tpfE
        rw [List.length_append, if_neg (by omega), if_neg (by omega)]
      refine JC.skip ?_
      refine JQ.next hK2 ?_
      refine JC.seq fun K6 hK6 => ?_
      refine JC.region ?_
      refine J.yl (y_move rfl rfl) rfl rfl rfl ?_
      refine J.callR (Cin := []) rfl rfl rfl rfl Tb.cl32 rfl rfl (of_fn l A n k hn hk (by omega) (fun w h => hA w h.1)) ?_
      rintro ⟨T, m, es, clock⟩ hM
      refine J.yl (y_move rfl rfl) rfl rfl rfl ?_
      refine J.yl (y_extract rfl rfl rfl) rfl rfl rfl ?_
      refine J.yl (y_extract rfl rfl rfl) rfl rfl rfl ?_
      refine J.yl (y_assign rfl rfl) rfl rfl rfl ?_
      refine J.yl (y_assign rfl rfl) rfl rfl rfl ?_
      refine J.nil ?_
      refine JQ.next hK6 ?_
      refine JC.seq fun K7 hK7 => ?_
      refine JC.seq fun K8 hK8 => ?_
      refine JC.region ?_
      refine J.yl (y_move rfl rfl) rfl rfl rfl ?_
      refine J.yl ((y_not rfl rfl).to rfl) rfl rfl rfl ?_
      refine J.nil ?_
      refine JQ.next hK8 ?_
      refine JC.no rfl ?_
      refine JC.skip ?_
      refine JQ.next hK7 ?_
      refine JC.seq fun K9 hK9 => ?_
      refine JC.region ?_
      refine J.yl (y_ib rfl Tryd.underlying84 Tb.sz5 rfl rfl (by decide)) rfl rfl rfl ?_
      refine J.yl (y_lb 2 rfl Tb.ag5 rfl rfl rfl) rfl rfl rfl ?_
      refine J.yl (y_8toi rfl (isS Tryd.underlying5) Tryd.underlying3 rfl) rfl rfl rfl ?_
      refine J.yl (y_move rfl rfl) rfl rfl rfl ?_
      refine J.yl (y_len rfl Tryd.underlying22 rfl) rfl rfl rfl ?_
      refine J.yl (y_add64 rfl rfl rfl (by omega)) rfl rfl rfl ?_
      refine J.yl ((y_remN y.toNat (n + 1) rfl rfl rfl rfl (by omega) (by omega)).to (by rw [hb])) rfl rfl rfl ?_
      refine J.yl (y_assign rfl rfl) rfl rfl rfl ?_
      refine J.nil ?_
      refine JQ.next hK9 ?_
      refine JC.seq fun K10 hK10 => ?_
      refine JC.region ?_
      refine J.yl (y_ib rfl Tryd.underlying84 Tb.sz5 rfl rfl (by decide)) rfl rfl rfl ?_
      refine J.yl (y_lb 2 rfl Tb.ag5 rfl rfl rfl) rfl rfl rfl ?_
      refine J.yl (y_8toi rfl (isS Tryd.underlying5) Tryd.underlying3 rfl) rfl rfl rfl ?_
      refine J.yl (y_move rfl rfl) rfl rfl rfl ?_
      refine J.yl (y_add64 rfl rfl rfl (by omega)) rfl rfl rfl ?_
      refine J.yl ((y_remN x.toNat (b + 1) rfl rfl rfl rfl (by omega) (by omega)).to (by rw [ha])) rfl rfl rfl ?_
      refine J.yl (y_assign rfl rfl) rfl rfl rfl ?_
      refine J.nil ?_
      refine JQ.next hK10 ?_
      refine JC.seq fun K11 hK11 => ?_
      refine JC.region ?_
      refine J.yl (y_move rfl rfl) rfl rfl rfl ?_
      refine J.callR (Cin := []) rfl rfl rfl rfl Tb.cl44 rfl rfl (tcopy_fn T m n es clock (fun w h => tt_of 0 1 rfl rfl h.2)) ?_
      rintro ⟨T2, m2⟩ _
      refine J.yl (y_assign rfl rfl) rfl rfl rfl ?_
      refine J.nil ?_
      refine JQ.next hK11 ?_
      refine JC.seq fun K12 hK12 => ?_
      refine JC.region ?_
      refine J.yl (y_move rfl rfl) rfl rfl rfl ?_
      refine J.yl (y_move rfl rfl) rfl rfl rfl ?_
      refine J.callv rfl rfl rfl rfl Tb.cl35 rfl (tRoot_fnE T m n es clock l hM hn (by omega) b (trt l b) 0 rfl hE1 (fun w h => tt_of 2 3 rfl rfl h.2)) ?_
      refine J.yl (y_move rfl rfl) rfl rfl rfl ?_
      refine J.yl (y_extract rfl rfl rfl) rfl rfl rfl ?_
      refine J.yl (y_extract rfl rfl rfl) rfl rfl rfl ?_
      refine J.alloc rfl rfl rfl rfl Tb.zz30 rfl fun g12 => ?_
      refine J.storeW 0 rfl rfl rfl rfl rfl rfl rfl Tb.sz30 (hcl _) (hcl _) (hc1 _) ?_
      refine J.yl (y_assign rfl rfl) rfl rfl rfl ?_
      refine J.nil ?_
      refine JQ.next hK12 ?_
      refine JC.seq fun K13 hK13 => ?_
      refine JC.region ?_
      refine J.yl (y_move rfl rfl) rfl rfl rfl ?_
      refine J.yl (y_move rfl rfl) rfl rfl rfl ?_
      refine J.yl (y_move rfl rfl) rfl rfl rfl ?_
      refine J.callR (Cin := []) rfl rfl rfl rfl Tb.cl37 rfl rfl (tPath_fnE T m n es clock l hM hn (by omega) a b (tpth l a b) (tpthE l a b) rfl rfl (fun w h => tt_of 3 4 rfl rfl h.2)) ?_
      rintro ⟨A1, k1⟩ hk1
      refine J.yl (y_move rfl rfl) rfl rfl rfl ?_
      refine J.yl (y_extract rfl rfl rfl) rfl rfl rfl ?_
      refine J.yl (y_extract rfl rfl rfl) rfl rfl rfl ?_
      refine J.yl (y_assign rfl rfl) rfl rfl rfl ?_
      refine J.yl (y_assign rfl rfl) rfl rfl rfl ?_
      refine J.nil ?_
      refine JQ.next hK13 ?_
      refine JC.seq fun K14 hK14 => ?_
      refine JC.region ?_
      refine J.yl (y_move rfl rfl) rfl rfl rfl ?_
      refine J.yl (y_move rfl rfl) rfl rfl rfl ?_
      refine J.yl (y_move rfl rfl) rfl rfl rfl ?_
      refine J.callR (Cin := []) rfl rfl rfl rfl Tb.cl39 rfl rfl (tProof_fnE T m n es clock l hM hn (by omega) a b (tpf l a b) (tpfE l a b) rfl rfl (fun w h => tt_of 4 5 rfl rfl h.2)) ?_
      rintro ⟨A2, k2⟩ hk2
      refine J.yl (y_move rfl rfl) rfl rfl rfl ?_
      refine J.yl (y_extract rfl rfl rfl) rfl rfl rfl ?_
      refine J.yl (y_extract rfl rfl rfl) rfl rfl rfl ?_
      refine J.yl (y_assign rfl rfl) rfl rfl rfl ?_
      refine J.yl (y_assign rfl rfl) rfl rfl rfl ?_
      refine J.nil ?_
      refine JQ.next hK14 ?_
      refine JC.seq fun K15 hK15 => ?_
      refine JC.seq fun K16 hK16 => ?_
      refine JC.region ?_
      refine J.yl (y_assign rfl rfl) rfl rfl rfl ?_
      refine J.nil ?_
      refine JQ.next hK16 ?_
      refine JC.block ?_
      refine JC.front 4 rfl ?_
      refine JC.front 4 rfl ?_
      refine JC.loopE (σ := Nat × Array MapEntry × Nat) (M := fun q => [(18, .int .i64 (q.1 : Int))]) (kp := [(0, _), (1, _), (7, _), (9, _), (10, _), (11, _), (12, _), (13, _), (14, _), (15, _), (16, _), (17, _)]) (hkp := (okE_cons rfl (okE_cons rfl (okE_cons rfl (okE_cons rfl (okE_cons rfl (okE_cons rfl (okE_cons rfl (okE_cons rfl (okE_cons rfl (okE_cons rfl (okE_cons rfl (okE_cons rfl okE_nil))))))))))))) (Dc := fun q => Tc T2 m2 (n + q.1) q.2.1 q.2.2 ++ [.row (.slice A2 (tpf l a b).length k2) 30 32 (tpf l a b).length (hcs (tpf l a b)), .row (.slice A1 (tpth l a b).length k1) 30 32 (tpth l a b).length (hcs (tpth l a b)), .box g12 30 (hc (trt l b))] ++ Tc T m n es clock ++ [.box g5 84 [u8 x, u8 y]]) (H := fun _ => F) (Ψ := fun q => q.1 ≤ p ∧ Mp q.2.1 (tile (l ++ mo.take q.1))) (μ := fun q => p - q.1) (0, es, clock) ⟨Nat.zero_le _, by rw [List.take_zero, List.append_nil]; exact hM⟩ (okE_cons rfl okE_nil) (fun w h => h) (fun sK17 hK17 K17 againK17 => ?_)
      obtain ⟨i, es2, clock2⟩ := sK17
      dsimp only at hK17 againK17 ⊢
      obtain ⟨hi, hM2⟩ := hK17
      refine JC.seq fun K18 hK18 => ?_
      refine JC.seq fun K19 hK19 => ?_
      refine JC.region ?_
      refine J.yl (y_move rfl rfl) rfl rfl rfl ?_
      refine J.yl (y_move rfl rfl) rfl rfl rfl ?_
      refine J.yl (y_len rfl Tryd.underlying22 rfl) rfl rfl rfl ?_
      refine J.yl (y_lt rfl rfl rfl) rfl rfl rfl ?_
      refine J.nil ?_
      refine JQ.next hK19 ?_
      refine JC.condp rfl (fun h3 => ?_) (fun h3 => ?_)
      · obtain ⟨z, hz⟩ : ∃ z, mo[i]? = some z := ⟨_, List.getElem?_eq_getElem (show i < mo.length by omega)⟩
        have hl : (l ++ mo.take i).length = n + i := by rw [List.length_append, List.length_take]; omega
        have hsn : addL (l ++ mo.take i) z = l ++ mo.take (i + 1) := by
          rw [addL, if_neg (by omega), List.take_add_one, hz, List.append_assoc]; rfl
        have hE : addE (l ++ mo.take i) = 0 := if_neg (by omega)
        refine JC.skip ?_
        refine JQ.next hK18 ?_
        refine JC.seq fun K20 hK20 => ?_
        refine JC.block ?_
        refine JC.seq fun K21 hK21 => ?_
        refine JC.region ?_
        refine J.yl (y_move rfl rfl) rfl rfl rfl ?_
        refine J.yl (y_move rfl rfl) rfl rfl rfl ?_
        refine J.yl (y_move rfl rfl) rfl rfl rfl ?_
        refine J.yl (y_hidx i rfl Tryd.underlying22 Tb.sz30 rfl rfl rfl hp (by omega) (fun w hs => hB w hs.fact)) rfl rfl rfl ?_
        refine J.yl (y_hld z rfl Tb.ag30 Tb.sz30 rfl hz (fun w hs => hB w hs.fact)) rfl rfl rfl ?_
        refine J.callR (Cin := [_, _]) rfl rfl rfl rfl Tb.cl42 rfl rfl (tadd_fnE T2 m2 (n + i) es2 clock2 (l ++ mo.take i) z hM2 hl (l ++ mo.take (i + 1)) (n + (i + 1)) 0 hsn (by rw [List.length_append, List.length_take]; omega) hE) ?_
        rintro ⟨es3, clock3⟩ hM3
        refine J.yl (y_ne rfl rfl rfl) rfl rfl rfl ?_
        refine J.nil ?_
        refine JQ.next hK21 ?_
        refine JC.condn rfl (fun h4 => ?_) (fun h4 => ?_)
        · exact absurd rfl h4
        · refine JC.skip ?_
          refine JQ.block_normal (JQ.next hK20 ?_)
          refine JC.region ?_
          refine J.yl (y_move rfl rfl) rfl rfl rfl ?_
          refine J.yl (y_add64 rfl rfl rfl (by omega)) rfl rfl rfl ?_
          refine J.yl (y_assign rfl rfl) rfl rfl rfl ?_
          refine J.nil ?_
          refine againK17 (i + 1, es3, clock3) _ ⟨by dsimp only; omega, hM3⟩ (by dsimp only; omega) (okE_cons (slotI (by dsimp only; omega)) okE_nil) (okE_cons rfl (okE_cons rfl (okE_cons rfl (okE_cons rfl (okE_cons rfl (okE_cons rfl (okE_cons rfl (okE_cons rfl (okE_cons rfl (okE_cons rfl (okE_cons rfl (okE_cons rfl okE_nil))))))))))))
      · obtain rfl : i = p := by omega
        have hM2 : Mp es2 (tile (l ++ mo)) := by have := hM2; rwa [List.take_of_length_le (by omega)] at this
        have hl : (l ++ mo).length = n + i := by rw [List.length_append]; omega
        refine JC.exit ?_
        refine JQ.then_exit (JQ.then_exit (JQ.block_hit (JQ.next hK15 ?_)))
        refine JC.seq fun K22 hK22 => ?_
        refine JC.region ?_
        refine J.yl (y_move rfl rfl) rfl rfl rfl ?_
        refine J.yl (y_move rfl rfl) rfl rfl rfl ?_
        refine J.callv rfl rfl rfl rfl Tb.cl35 rfl (tRoot_fnE T2 m2 (n + i) es2 clock2 (l ++ mo) hM2 hl (by omega) b (trt l b) 0 ht2 hE2 (fun w h => tt_of 0 1 rfl rfl h.2)) ?_
        refine J.yl (y_move rfl rfl) rfl rfl rfl ?_
        refine J.yl (y_extract rfl rfl rfl) rfl rfl rfl ?_
        refine J.yl (y_extract rfl rfl rfl) rfl rfl rfl ?_
        refine J.alloc rfl rfl rfl rfl Tb.zz30 rfl fun g19 => ?_
        refine J.storeW 0 rfl rfl rfl rfl rfl rfl rfl Tb.sz30 (hcl _) (hcl _) (hc1 _) ?_
        refine J.yl (y_assign rfl rfl) rfl rfl rfl ?_
        refine J.nil ?_
        refine JQ.next hK22 ?_
        refine JC.seq fun K23 hK23 => ?_
        refine JC.region ?_
        refine J.yl (y_move rfl rfl) rfl rfl rfl ?_
        refine J.yl (y_move rfl rfl) rfl rfl rfl ?_
        refine J.yl (y_move rfl rfl) rfl rfl rfl ?_
        refine J.callR (Cin := []) rfl rfl rfl rfl Tb.cl37 rfl rfl (tPath_fnE T2 m2 (n + i) es2 clock2 (l ++ mo) hM2 hl (by omega) a b (tpth l a b) (tpthE l a b) hp2 hpE (fun w h => tt_of 1 2 rfl rfl h.2)) ?_
        rintro ⟨A3, k3⟩ hk3
        refine J.yl (y_move rfl rfl) rfl rfl rfl ?_
        refine J.yl (y_extract rfl rfl rfl) rfl rfl rfl ?_
        refine J.yl (y_extract rfl rfl rfl) rfl rfl rfl ?_
        refine J.yl (y_assign rfl rfl) rfl rfl rfl ?_
        refine J.yl (y_assign rfl rfl) rfl rfl rfl ?_
        refine J.nil ?_
        refine JQ.next hK23 ?_
        refine JC.seq fun K24 hK24 => ?_
        refine JC.region ?_
        refine J.yl (y_move rfl rfl) rfl rfl rfl ?_
        refine J.yl (y_move rfl rfl) rfl rfl rfl ?_
        refine J.yl (y_move rfl rfl) rfl rfl rfl ?_
        refine J.callR (Cin := []) rfl rfl rfl rfl Tb.cl39 rfl rfl (tProof_fnE T2 m2 (n + i) es2 clock2 (l ++ mo) hM2 hl (by omega) a b (tpf l a b) (tpfE l a b) hf2 hfE (fun w h => tt_of 2 3 rfl rfl h.2)) ?_
        rintro ⟨A4, k4⟩ hk4
        refine J.yl (y_move rfl rfl) rfl rfl rfl ?_
        refine J.yl (y_extract rfl rfl rfl) rfl rfl rfl ?_
        refine J.yl (y_extract rfl rfl rfl) rfl rfl rfl ?_
        refine J.yl (y_assign rfl rfl) rfl rfl rfl ?_
        refine J.yl (y_assign rfl rfl) rfl rfl rfl ?_
        refine J.nil ?_
        refine JQ.next hK24 ?_
        refine JC.seq fun K25 hK25 => ?_
        refine JC.region ?_
        refine J.yl (y_move rfl rfl) rfl rfl rfl ?_
        refine J.callv rfl rfl rfl rfl Tb.cl43 rfl (size_fn T m n es clock (fun w h => tt_of 8 9 rfl rfl h.2)) ?_
        refine J.yl (y_move rfl rfl) rfl rfl rfl ?_
        refine J.yl (y_len rfl Tryd.underlying22 rfl) rfl rfl rfl ?_
        refine J.yl (Yl.to (v' := .bool true) (y_eq rfl rfl rfl) (by rw [decide_eq_true rfl])) rfl rfl rfl ?_
        refine J.yl (y_move rfl rfl) rfl rfl rfl ?_
        refine J.gyes (y_move rfl rfl) rfl rfl rfl rfl rfl rfl ?_
        refine J.gon rfl rfl rfl rfl ?_
        refine J.callv rfl rfl rfl rfl Tb.cl43 rfl (size_fn T2 m2 (n + i) es2 clock2 (fun w h => tt_of 3 4 rfl rfl h.2)) ?_
        refine J.gyes (y_move rfl rfl) rfl rfl rfl rfl rfl rfl ?_
        refine J.gyes (y_len rfl Tryd.underlying22 rfl) rfl rfl rfl rfl rfl rfl ?_
        refine J.gyes (y_move rfl rfl) rfl rfl rfl rfl rfl rfl ?_
        refine J.gyes (y_len rfl Tryd.underlying22 rfl) rfl rfl rfl rfl rfl rfl ?_
        refine J.gyes (y_add64 rfl rfl rfl (by omega)) rfl rfl rfl rfl rfl rfl ?_
        refine J.gyes (Yl.to (v' := .bool true) (y_eq rfl rfl rfl) (by rw [decide_eq_true (by omega)])) rfl rfl rfl rfl rfl rfl ?_
        refine J.yl (y_pick rfl rfl (fun _ => rfl) (fun h => by cases h)) rfl rfl rfl ?_
        refine J.yl (y_move rfl rfl) rfl rfl rfl ?_
        refine J.gyes (y_lbW 7 rfl Tb.ag30 Tb.sz30 (hcl _) rfl rfl) rfl rfl rfl rfl rfl rfl ?_
        refine J.gyes (y_lbW 2 rfl Tb.ag30 Tb.sz30 (hcl _) rfl rfl) rfl rfl rfl rfl rfl rfl ?_
        refine J.gyes (Yl.to (v' := .bool true) (y_heq rfl Tryd.underlying30 Tryd.underlying5 Tb.ag5 Tb.sz5 Tb.eg30 rfl rfl) (by rw [decide_eq_true rfl])) rfl rfl rfl rfl rfl rfl ?_
        refine J.yl (y_pick rfl rfl (fun _ => rfl) (fun h => by cases h)) rfl rfl rfl ?_
        refine J.yl (y_move rfl rfl) rfl rfl rfl ?_
        refine J.gyes (y_move rfl rfl) rfl rfl rfl rfl rfl rfl ?_
        refine J.gyes (y_move rfl rfl) rfl rfl rfl rfl rfl rfl ?_
        refine J.gyes (Yl.to (v' := .bool true) (y_eq rfl rfl rfl) (by rw [decide_eq_true rfl])) rfl rfl rfl rfl rfl rfl ?_
        refine J.yl (y_pick rfl rfl (fun _ => rfl) (fun h => by cases h)) rfl rfl rfl ?_
        refine J.yl (y_move rfl rfl) rfl rfl rfl ?_
        refine J.gyes (y_move rfl rfl) rfl rfl rfl rfl rfl rfl ?_
        refine J.gyes (y_move rfl rfl) rfl rfl rfl rfl rfl rfl ?_
        refine J.gon rfl rfl rfl rfl ?_
        refine J.callv rfl rfl rfl rfl Tb.cl26 rfl ((same_fn (tpth l a b) (tpth l a b) A1 A3 _ _ k1 k3 rfl rfl (by omega) (fun w h => ckrow 6 rfl h) (fun w h => ckrow 1 rfl h)).to (by rw [decide_eq_true rfl])) ?_
        refine J.yl (y_pick rfl rfl (fun _ => rfl) (fun h => by cases h)) rfl rfl rfl ?_
        refine J.yl (y_move rfl rfl) rfl rfl rfl ?_
        refine J.gyes (y_move rfl rfl) rfl rfl rfl rfl rfl rfl ?_
        refine J.gyes (y_move rfl rfl) rfl rfl rfl rfl rfl rfl ?_
        refine J.gyes (Yl.to (v' := .bool true) (y_eq rfl rfl rfl) (by rw [decide_eq_true rfl])) rfl rfl rfl rfl rfl rfl ?_
        refine J.yl (y_pick rfl rfl (fun _ => rfl) (fun h => by cases h)) rfl rfl rfl ?_
        refine J.yl (y_move rfl rfl) rfl rfl rfl ?_
        refine J.gyes (y_move rfl rfl) rfl rfl rfl rfl rfl rfl ?_
        refine J.gyes (y_move rfl rfl) rfl rfl rfl rfl rfl rfl ?_
        refine J.gon rfl rfl rfl rfl ?_
        refine J.callv rfl rfl rfl rfl Tb.cl26 rfl ((same_fn (tpf l a b) (tpf l a b) A2 A4 _ _ k2 k4 rfl rfl (by omega) (fun w h => ckrow 5 rfl h) (fun w h => ckrow 0 rfl h)).to (by rw [decide_eq_true rfl])) ?_
        refine J.yl (y_pick rfl rfl (fun _ => rfl) (fun h => by cases h)) rfl rfl rfl ?_
        refine J.yl (y_move rfl rfl) rfl rfl rfl ?_
        refine J.gyes (y_move rfl rfl) rfl rfl rfl rfl rfl rfl ?_
        refine J.gyes (y_move rfl rfl) rfl rfl rfl rfl rfl rfl ?_
        refine J.gyes (Yl.to (v' := .bool true) (y_eq rfl rfl rfl) (by rw [decide_eq_true rfl])) rfl rfl rfl rfl rfl rfl ?_
        refine J.yl (y_pick rfl rfl (fun _ => rfl) (fun h => by cases h)) rfl rfl rfl ?_
        refine J.yl (y_move rfl rfl) rfl rfl rfl ?_
        refine J.gon rfl rfl rfl rfl ?_
        refine J.callv rfl rfl rfl rfl Tb.cl31 rfl (tiled_fn) ?_
        refine J.yl (y_pick rfl rfl (fun _ => rfl) (fun h => by cases h)) rfl rfl rfl ?_
        refine J.yl (y_assign rfl rfl) rfl rfl rfl ?_
        refine J.nil ?_
        refine JQ.next hK25 ?_
        refine JC.ret ?_
        exact ret1 rfl (r_tmp rfl) fun w hs => Post.pure hs
end Go.Proofs.YtjkfeonbioccmaaDoor
