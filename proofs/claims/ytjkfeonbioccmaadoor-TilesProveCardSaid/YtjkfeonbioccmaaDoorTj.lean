/- Speculum proofs: the chapter's leaves, told by tiles. -/
import Derived.Test.YtjkfeonbioccmaaDoorTi
import Derived.Test.YtjkfeonbioccmaaDoorFf
namespace Go.Proofs.YtjkfeonbioccmaaDoor
open Go Go.Sx Go.RowKit
set_option linter.unusedVariables false
set_option linter.unusedSimpArgs false
set_option maxRecDepth 100000
set_option maxHeartbeats 4000000
variable {Gl F : World → Prop}
end Go.Proofs.YtjkfeonbioccmaaDoor
namespace Go.Sx
theorem D.three {c : Cx} {ops : Array Oper} {Q : Exit → Act → World → Prop} {Cs : List Chunk} {Fs F : World → Prop} {fuel : Nat} {listed : Array Bool} {tm : Env} {C : List Chunk} (i j k : Nat) (hri : Region.ready .any ops listed = [i, j, k]) (h : DS c ops Q Cs Fs fuel listed tm C F i) (h' : DS c ops Q Cs Fs fuel listed tm C F j) (h3 : DS c ops Q Cs Fs fuel listed tm C F k) : D c ops Q Cs Fs (fuel + 1) listed tm C F := fun a w ha hst hS => by
  refine ⟨fun h0 => absurd (hri ▸ h0) (by simp), fun q hq => ?_⟩
  rw [hri] at hq
  have hq' : q = i ∨ q = j ∨ q = k := by simpa using hq
  rcases hq' with rfl | rfl | rfl
  · exact h a w ha hst hS
  · exact h' a w ha hst hS
  · exact h3 a w ha hst hS
end Go.Sx
namespace Go.Proofs.YtjkfeonbioccmaaDoor
open Go Go.Sx Go.RowKit
variable {Gl F : World → Prop}
set_option maxRecDepth 100000
set_option maxHeartbeats 40000000
set_option linter.unusedVariables false
-- AUX
theorem tiled_fn : PureFn Tryd.prog Gs 31 [] F (.bool true) := by
  obtain ⟨a, b, c, d, e, hl⟩ : ∃ a b c d e, someL 5 6 = [a, b, c, d, e] := ⟨_, _, _, _, _, rfl⟩
  have hnz := ab_nz a b c d e hl
  have hpa := tpth5 a b c d e
  have hpf := tpf5 a b c d e
  have ht11 := tile5_11 a b c d e
  have ht12 := tile5_12 a b c d e
  have ht20 := tile5_20 a b c d e
  have htr := trt5_3 a b c d e
  obtain ⟨ab, eab⟩ : ∃ x, node a b = x := ⟨_, rfl⟩
  obtain ⟨cd, ecd⟩ : ∃ x, node c d = x := ⟨_, rfl⟩
  obtain ⟨abcd, eabcd⟩ : ∃ x, node ab cd = x := ⟨_, rfl⟩
  obtain ⟨abc, eabc⟩ : ∃ x, node ab c = x := ⟨_, rfl⟩
  rw [eab] at hnz hpa hpf
  rw [ecd] at ht11
  rw [eab, ecd, eabcd] at ht20
  rw [eab, eabc] at htr
  refine FnSpec.intro Tryd.func31 rfl Tryd.ntmps31 rfl fun X M w => ?_
  refine JC.seq fun K1 hK1 => ?_
  refine JC.region ?_
  refine J.yl (y_assign rfl rfl) rfl rfl rfl ?_
  refine J.nil ?_
  refine JQ.next hK1 ?_
  refine JC.seq fun K2 hK2 => ?_
  refine JC.region ?_
  refine J.callR (Cin := []) rfl rfl rfl rfl Tb.cl29 rfl rfl (some_fnE 5 5 6 [a, b, c, d, e] hl rfl (by omega)) ?_
  rintro ⟨A, k⟩ hk
  refine J.yl (y_assign rfl rfl) rfl rfl rfl ?_
  refine J.nil ?_
  refine JQ.next hK2 ?_
  refine JC.seq fun K3 hK3 => ?_
  refine JC.region ?_
  refine J.yl (y_move rfl rfl) rfl rfl rfl ?_
  refine J.callR (Cin := []) rfl rfl rfl rfl Tb.cl32 rfl rfl (of_fn [a, b, c, d, e] A 5 k rfl hk (by omega) (fun w h => ckrow 0 rfl h)) ?_
  rintro ⟨T, m, es, clock⟩ hM
  refine J.yl (y_move rfl rfl) rfl rfl rfl ?_
  refine J.yl (y_extract rfl rfl rfl) rfl rfl rfl ?_
  refine J.yl (y_extract rfl rfl rfl) rfl rfl rfl ?_
  refine J.yl (y_assign rfl rfl) rfl rfl rfl ?_
  refine J.yl (y_assign rfl rfl) rfl rfl rfl ?_
  refine J.nil ?_
  refine JQ.next hK3 ?_
  refine JC.seq fun K4 hK4 => ?_
  refine JC.seq fun K5 hK5 => ?_
  refine JC.region ?_
  refine J.yl (y_move rfl rfl) rfl rfl rfl ?_
  refine J.yl ((y_not rfl rfl).to rfl) rfl rfl rfl ?_
  refine J.nil ?_
  refine JQ.next hK5 ?_
  refine JC.no rfl ?_
  refine JC.skip ?_
  refine JQ.next hK4 ?_
  refine JC.seq fun K6 hK6 => ?_
  refine JC.cutE (σ := Nat × Nat) (M := fun q => [(4, .pointer (some ⟨q.1, 0, none⟩)), (5, .pointer (some ⟨q.2, 0, none⟩))]) (kp := [(1, _), (2, _)]) (hkp := (okE_cons rfl (okE_cons rfl okE_nil))) (Dc := fun q => [.box q.2 30 (hc cd), .box q.1 30 (hc ab), .box T 57 [.map (some m), .int .i64 ((5 : Nat) : Int)], .mp m (.map es clock), .row (.slice A 5 k) 30 32 5 (hcs [a, b, c, d, e])]) (H := fun _ => F) (Ψ := fun _ => True) (fun K7 againK7 => ?_) (fun sK7 hK7 => ?_)
  refine JC.drawM [true, true, true] (by as_aux_lemma => kernel_rfl) ?_
  refine D.take 0 (y_move rfl rfl) rfl rfl rfl rfl (by as_aux_lemma => kernel_rfl) (by as_aux_lemma => kernel_rfl) (by as_aux_lemma => kernel_rfl) (PQ.next (PQ.next PQ.body)) ?_
  refine D.take 3 (y_move rfl rfl) rfl rfl rfl rfl (by as_aux_lemma => kernel_rfl) (by as_aux_lemma => kernel_rfl) (by as_aux_lemma => kernel_rfl) (PQ.next (PQ.next PQ.body)) ?_
  refine D.take 7 (y_move rfl rfl) rfl rfl rfl rfl (by as_aux_lemma => kernel_rfl) (by as_aux_lemma => kernel_rfl) (by as_aux_lemma => kernel_rfl) (PQ.next (PQ.next PQ.body)) ?_
  refine D.take 10 (y_move rfl rfl) rfl rfl rfl rfl (by as_aux_lemma => kernel_rfl) (by as_aux_lemma => kernel_rfl) (by as_aux_lemma => kernel_rfl) (PQ.next (PQ.next PQ.body)) ?_
  · refine D.take 1 (y_hidx (n := 5) (l := [a, b, c, d, e]) 0 rfl Tryd.underlying22 Tb.sz30 rfl rfl rfl rfl (by omega) (fun w hs => strow hs 2 rfl)) rfl rfl rfl rfl (by as_aux_lemma => kernel_rfl) (by as_aux_lemma => kernel_rfl) (by as_aux_lemma => kernel_rfl) (PQ.next (PQ.next PQ.body)) ?_
    refine D.take 2 (y_hld (l := [a, b, c, d, e]) a rfl Tb.ag30 Tb.sz30 rfl rfl (fun w hs => strow hs 2 rfl)) rfl rfl rfl rfl (by as_aux_lemma => kernel_rfl) (by as_aux_lemma => kernel_rfl) (by as_aux_lemma => kernel_rfl) (PQ.next (PQ.next PQ.body)) ?_
    refine D.take 4 (y_hidx (n := 5) (l := [a, b, c, d, e]) 1 rfl Tryd.underlying22 Tb.sz30 rfl rfl rfl rfl (by omega) (fun w hs => strow hs 2 rfl)) rfl rfl rfl rfl (by as_aux_lemma => kernel_rfl) (by as_aux_lemma => kernel_rfl) (by as_aux_lemma => kernel_rfl) (PQ.next (PQ.next PQ.body)) ?_
    refine D.take 5 (y_hld (l := [a, b, c, d, e]) b rfl Tb.ag30 Tb.sz30 rfl rfl (fun w hs => strow hs 2 rfl)) rfl rfl rfl rfl (by as_aux_lemma => kernel_rfl) (by as_aux_lemma => kernel_rfl) (by as_aux_lemma => kernel_rfl) (PQ.next (PQ.next PQ.body)) ?_
    refine D.take 8 (y_hidx (n := 5) (l := [a, b, c, d, e]) 2 rfl Tryd.underlying22 Tb.sz30 rfl rfl rfl rfl (by omega) (fun w hs => strow hs 2 rfl)) rfl rfl rfl rfl (by as_aux_lemma => kernel_rfl) (by as_aux_lemma => kernel_rfl) (by as_aux_lemma => kernel_rfl) (PQ.next (PQ.next PQ.body)) ?_
    refine D.take 9 (y_hld (l := [a, b, c, d, e]) c rfl Tb.ag30 Tb.sz30 rfl rfl (fun w hs => strow hs 2 rfl)) rfl rfl rfl rfl (by as_aux_lemma => kernel_rfl) (by as_aux_lemma => kernel_rfl) (by as_aux_lemma => kernel_rfl) (PQ.next (PQ.next PQ.body)) ?_
    refine D.take 11 (y_hidx (n := 5) (l := [a, b, c, d, e]) 3 rfl Tryd.underlying22 Tb.sz30 rfl rfl rfl rfl (by omega) (fun w hs => strow hs 2 rfl)) rfl rfl rfl rfl (by as_aux_lemma => kernel_rfl) (by as_aux_lemma => kernel_rfl) (by as_aux_lemma => kernel_rfl) (PQ.next (PQ.next PQ.body)) ?_
    refine D.take 12 (y_hld (l := [a, b, c, d, e]) d rfl Tb.ag30 Tb.sz30 rfl rfl (fun w hs => strow hs 2 rfl)) rfl rfl rfl rfl (by as_aux_lemma => kernel_rfl) (by as_aux_lemma => kernel_rfl) (by as_aux_lemma => kernel_rfl) (PQ.next (PQ.next PQ.body)) ?_
    refine D.three 6 14 15 (by as_aux_lemma => kernel_rfl) ?_ ?_ ?_
    · refine DS.ofJ rfl fun KhK9 hK9 => ?_
      refine J.callv rfl rfl rfl rfl Tb.cl105 rfl ((node_spec a b).to (by rw [eab])) ?_
      refine J.nil ?_
      refine hK9 _ _ _ (fun w hs => hs.mask [true, true, true]) ?_
      refine D.three 13 14 15 (by as_aux_lemma => kernel_rfl) ?_ ?_ ?_
      · refine DS.ofJ rfl fun KhK11 hK11 => ?_
        refine J.callv rfl rfl rfl rfl Tb.cl105 rfl ((node_spec c d).to (by rw [ecd])) ?_
        refine J.nil ?_
        refine hK11 _ _ _ (fun w hs => hs.mask [true, true, true]) ?_
        refine D.two 14 15 (by as_aux_lemma => kernel_rfl) ?_ ?_
        · refine DS.ofJ rfl fun KhK12 hK12 => ?_
          refine J.alloc rfl rfl rfl rfl Tb.zz30 rfl fun g4 => ?_
          refine J.nil ?_
          refine hK12 _ _ _ (fun w hs => hs.mask [false, true, true, true]) ?_
          refine D.ofJ 15 (by as_aux_lemma => kernel_rfl) rfl fun KhK13 hK13 => ?_
          refine J.alloc rfl rfl rfl rfl Tb.zz30 rfl fun g5 => ?_
          refine J.nil ?_
          refine hK13 _ _ _ (fun w hs => hs.mask [false, false, true, true, true]) ?_
          refine D.ofJ 16 (by as_aux_lemma => kernel_rfl) rfl fun KhK14 hK14 => ?_
          refine J.storeW 1 rfl rfl rfl rfl rfl rfl rfl Tb.sz30 (hcl _) (hcl _) (hc1 _) ?_
          refine J.nil ?_
          refine hK14 _ _ _ (fun w hs => hs.mask [false, false, true, true, true]) ?_
          refine D.ofJ 17 (by as_aux_lemma => kernel_rfl) rfl fun KhK15 hK15 => ?_
          refine J.storeW 0 rfl rfl rfl rfl rfl rfl rfl Tb.sz30 (hcl _) (hcl _) (hc1 _) ?_
          refine J.nil ?_
          refine hK15 _ _ _ (fun w hs => hs.mask [false, false, true, true, true]) ?_
          refine D.done (by as_aux_lemma => kernel_rfl) ?_
          refine againK7 (g4, g5) _ trivial (okE_cons rfl (okE_cons rfl okE_nil)) (okE_cons rfl (okE_cons rfl okE_nil))
        · refine DS.ofJ rfl fun KhK16 hK16 => ?_
          refine J.alloc rfl rfl rfl rfl Tb.zz30 rfl fun g5 => ?_
          refine J.nil ?_
          refine hK16 _ _ _ (fun w hs => hs.mask [false, true, true, true]) ?_
          refine D.ofJ 14 (by as_aux_lemma => kernel_rfl) rfl fun KhK17 hK17 => ?_
          refine J.alloc rfl rfl rfl rfl Tb.zz30 rfl fun g4 => ?_
          refine J.nil ?_
          refine hK17 _ _ _ (fun w hs => hs.mask [false, false, true, true, true]) ?_
          refine D.ofJ 16 (by as_aux_lemma => kernel_rfl) rfl fun KhK18 hK18 => ?_
          refine J.storeW 0 rfl rfl rfl rfl rfl rfl rfl Tb.sz30 (hcl _) (hcl _) (hc1 _) ?_
          refine J.nil ?_
          refine hK18 _ _ _ (fun w hs => hs.mask [false, false, true, true, true]) ?_
          refine D.ofJ 17 (by as_aux_lemma => kernel_rfl) rfl fun KhK19 hK19 => ?_
          refine J.storeW 1 rfl rfl rfl rfl rfl rfl rfl Tb.sz30 (hcl _) (hcl _) (hc1 _) ?_
          refine J.nil ?_
          refine hK19 _ _ _ (fun w hs => hs.mask [false, false, true, true, true]) ?_
          refine D.done (by as_aux_lemma => kernel_rfl) ?_
          refine JQ.front 1 rfl ?_
          refine againK7 (g4, g5) _ trivial (okE_cons rfl (okE_cons rfl okE_nil)) (okE_cons rfl (okE_cons rfl okE_nil))
      · refine DS.ofJ rfl fun KhK20 hK20 => ?_
        refine J.alloc rfl rfl rfl rfl Tb.zz30 rfl fun g4 => ?_
        refine J.nil ?_
        refine hK20 _ _ _ (fun w hs => hs.mask [false, true, true, true]) ?_
        refine D.two 13 15 (by as_aux_lemma => kernel_rfl) ?_ ?_
        · refine DS.ofJ rfl fun KhK22 hK22 => ?_
          refine J.callv rfl rfl rfl rfl Tb.cl105 rfl ((node_spec c d).to (by rw [ecd])) ?_
          refine J.nil ?_
          refine hK22 _ _ _ (fun w hs => hs.mask [false, true, true, true]) ?_
          refine D.ofJ 15 (by as_aux_lemma => kernel_rfl) rfl fun KhK23 hK23 => ?_
          refine J.alloc rfl rfl rfl rfl Tb.zz30 rfl fun g5 => ?_
          refine J.nil ?_
          refine hK23 _ _ _ (fun w hs => hs.mask [false, false, true, true, true]) ?_
          refine D.ofJ 16 (by as_aux_lemma => kernel_rfl) rfl fun KhK24 hK24 => ?_
          refine J.storeW 1 rfl rfl rfl rfl rfl rfl rfl Tb.sz30 (hcl _) (hcl _) (hc1 _) ?_
          refine J.nil ?_
          refine hK24 _ _ _ (fun w hs => hs.mask [false, false, true, true, true]) ?_
          refine D.ofJ 17 (by as_aux_lemma => kernel_rfl) rfl fun KhK25 hK25 => ?_
          refine J.storeW 0 rfl rfl rfl rfl rfl rfl rfl Tb.sz30 (hcl _) (hcl _) (hc1 _) ?_
          refine J.nil ?_
          refine hK25 _ _ _ (fun w hs => hs.mask [false, false, true, true, true]) ?_
          refine D.done (by as_aux_lemma => kernel_rfl) ?_
          refine againK7 (g4, g5) _ trivial (okE_cons rfl (okE_cons rfl okE_nil)) (okE_cons rfl (okE_cons rfl okE_nil))
        · refine DS.ofJ rfl fun KhK26 hK26 => ?_
          refine J.alloc rfl rfl rfl rfl Tb.zz30 rfl fun g5 => ?_
          refine J.nil ?_
          refine hK26 _ _ _ (fun w hs => hs.mask [false, false, true, true, true]) ?_
          refine D.ofJ 13 (by as_aux_lemma => kernel_rfl) rfl fun KhK28 hK28 => ?_
          refine J.callv rfl rfl rfl rfl Tb.cl105 rfl ((node_spec c d).to (by rw [ecd])) ?_
          refine J.nil ?_
          refine hK28 _ _ _ (fun w hs => hs.mask [false, false, true, true, true]) ?_
          refine D.ofJ 16 (by as_aux_lemma => kernel_rfl) rfl fun KhK29 hK29 => ?_
          refine J.storeW 1 rfl rfl rfl rfl rfl rfl rfl Tb.sz30 (hcl _) (hcl _) (hc1 _) ?_
          refine J.nil ?_
          refine hK29 _ _ _ (fun w hs => hs.mask [false, false, true, true, true]) ?_
          refine D.ofJ 17 (by as_aux_lemma => kernel_rfl) rfl fun KhK30 hK30 => ?_
          refine J.storeW 0 rfl rfl rfl rfl rfl rfl rfl Tb.sz30 (hcl _) (hcl _) (hc1 _) ?_
          refine J.nil ?_
          refine hK30 _ _ _ (fun w hs => hs.mask [false, false, true, true, true]) ?_
          refine D.done (by as_aux_lemma => kernel_rfl) ?_
          refine againK7 (g4, g5) _ trivial (okE_cons rfl (okE_cons rfl okE_nil)) (okE_cons rfl (okE_cons rfl okE_nil))
      · refine DS.ofJ rfl fun KhK31 hK31 => ?_
        refine J.alloc rfl rfl rfl rfl Tb.zz30 rfl fun g5 => ?_
        refine J.nil ?_
        refine hK31 _ _ _ (fun w hs => hs.mask [false, true, true, true]) ?_
        refine D.two 13 14 (by as_aux_lemma => kernel_rfl) ?_ ?_
        · refine DS.ofJ rfl fun KhK33 hK33 => ?_
          refine J.callv rfl rfl rfl rfl Tb.cl105 rfl ((node_spec c d).to (by rw [ecd])) ?_
          refine J.nil ?_
          refine hK33 _ _ _ (fun w hs => hs.mask [false, true, true, true]) ?_
          refine D.ofJ 14 (by as_aux_lemma => kernel_rfl) rfl fun KhK34 hK34 => ?_
          refine J.alloc rfl rfl rfl rfl Tb.zz30 rfl fun g4 => ?_
          refine J.nil ?_
          refine hK34 _ _ _ (fun w hs => hs.mask [false, false, true, true, true]) ?_
          refine D.ofJ 16 (by as_aux_lemma => kernel_rfl) rfl fun KhK35 hK35 => ?_
          refine J.storeW 0 rfl rfl rfl rfl rfl rfl rfl Tb.sz30 (hcl _) (hcl _) (hc1 _) ?_
          refine J.nil ?_
          refine hK35 _ _ _ (fun w hs => hs.mask [false, false, true, true, true]) ?_
          refine D.ofJ 17 (by as_aux_lemma => kernel_rfl) rfl fun KhK36 hK36 => ?_
          refine J.storeW 1 rfl rfl rfl rfl rfl rfl rfl Tb.sz30 (hcl _) (hcl _) (hc1 _) ?_
          refine J.nil ?_
          refine hK36 _ _ _ (fun w hs => hs.mask [false, false, true, true, true]) ?_
          refine D.done (by as_aux_lemma => kernel_rfl) ?_
          refine JQ.front 1 rfl ?_
          refine againK7 (g4, g5) _ trivial (okE_cons rfl (okE_cons rfl okE_nil)) (okE_cons rfl (okE_cons rfl okE_nil))
        · refine DS.ofJ rfl fun KhK37 hK37 => ?_
          refine J.alloc rfl rfl rfl rfl Tb.zz30 rfl fun g4 => ?_
          refine J.nil ?_
          refine hK37 _ _ _ (fun w hs => hs.mask [false, false, true, true, true]) ?_
          refine D.ofJ 13 (by as_aux_lemma => kernel_rfl) rfl fun KhK39 hK39 => ?_
          refine J.callv rfl rfl rfl rfl Tb.cl105 rfl ((node_spec c d).to (by rw [ecd])) ?_
          refine J.nil ?_
          refine hK39 _ _ _ (fun w hs => hs.mask [false, false, true, true, true]) ?_
          refine D.ofJ 16 (by as_aux_lemma => kernel_rfl) rfl fun KhK40 hK40 => ?_
          refine J.storeW 0 rfl rfl rfl rfl rfl rfl rfl Tb.sz30 (hcl _) (hcl _) (hc1 _) ?_
          refine J.nil ?_
          refine hK40 _ _ _ (fun w hs => hs.mask [false, false, true, true, true]) ?_
          refine D.ofJ 17 (by as_aux_lemma => kernel_rfl) rfl fun KhK41 hK41 => ?_
          refine J.storeW 1 rfl rfl rfl rfl rfl rfl rfl Tb.sz30 (hcl _) (hcl _) (hc1 _) ?_
          refine J.nil ?_
          refine hK41 _ _ _ (fun w hs => hs.mask [false, false, true, true, true]) ?_
          refine D.done (by as_aux_lemma => kernel_rfl) ?_
          refine JQ.front 1 rfl ?_
          refine againK7 (g4, g5) _ trivial (okE_cons rfl (okE_cons rfl okE_nil)) (okE_cons rfl (okE_cons rfl okE_nil))
    · refine DS.ofJ rfl fun KhK42 hK42 => ?_
      refine J.alloc rfl rfl rfl rfl Tb.zz30 rfl fun g4 => ?_
      refine J.nil ?_
      refine hK42 _ _ _ (fun w hs => hs.mask [false, true, true, true]) ?_
      refine D.two 6 15 (by as_aux_lemma => kernel_rfl) ?_ ?_
      · refine DS.ofJ rfl fun KhK44 hK44 => ?_
        refine J.callv rfl rfl rfl rfl Tb.cl105 rfl ((node_spec a b).to (by rw [eab])) ?_
        refine J.nil ?_
        refine hK44 _ _ _ (fun w hs => hs.mask [false, true, true, true]) ?_
        refine D.two 13 15 (by as_aux_lemma => kernel_rfl) ?_ ?_
        · refine DS.ofJ rfl fun KhK46 hK46 => ?_
          refine J.callv rfl rfl rfl rfl Tb.cl105 rfl ((node_spec c d).to (by rw [ecd])) ?_
          refine J.nil ?_
          refine hK46 _ _ _ (fun w hs => hs.mask [false, true, true, true]) ?_
          refine D.ofJ 15 (by as_aux_lemma => kernel_rfl) rfl fun KhK47 hK47 => ?_
          refine J.alloc rfl rfl rfl rfl Tb.zz30 rfl fun g5 => ?_
          refine J.nil ?_
          refine hK47 _ _ _ (fun w hs => hs.mask [false, false, true, true, true]) ?_
          refine D.ofJ 16 (by as_aux_lemma => kernel_rfl) rfl fun KhK48 hK48 => ?_
          refine J.storeW 1 rfl rfl rfl rfl rfl rfl rfl Tb.sz30 (hcl _) (hcl _) (hc1 _) ?_
          refine J.nil ?_
          refine hK48 _ _ _ (fun w hs => hs.mask [false, false, true, true, true]) ?_
          refine D.ofJ 17 (by as_aux_lemma => kernel_rfl) rfl fun KhK49 hK49 => ?_
          refine J.storeW 0 rfl rfl rfl rfl rfl rfl rfl Tb.sz30 (hcl _) (hcl _) (hc1 _) ?_
          refine J.nil ?_
          refine hK49 _ _ _ (fun w hs => hs.mask [false, false, true, true, true]) ?_
          refine D.done (by as_aux_lemma => kernel_rfl) ?_
          refine againK7 (g4, g5) _ trivial (okE_cons rfl (okE_cons rfl okE_nil)) (okE_cons rfl (okE_cons rfl okE_nil))
        · refine DS.ofJ rfl fun KhK50 hK50 => ?_
          refine J.alloc rfl rfl rfl rfl Tb.zz30 rfl fun g5 => ?_
          refine J.nil ?_
          refine hK50 _ _ _ (fun w hs => hs.mask [false, false, true, true, true]) ?_
          refine D.ofJ 13 (by as_aux_lemma => kernel_rfl) rfl fun KhK52 hK52 => ?_
          refine J.callv rfl rfl rfl rfl Tb.cl105 rfl ((node_spec c d).to (by rw [ecd])) ?_
          refine J.nil ?_
          refine hK52 _ _ _ (fun w hs => hs.mask [false, false, true, true, true]) ?_
          refine D.ofJ 16 (by as_aux_lemma => kernel_rfl) rfl fun KhK53 hK53 => ?_
          refine J.storeW 1 rfl rfl rfl rfl rfl rfl rfl Tb.sz30 (hcl _) (hcl _) (hc1 _) ?_
          refine J.nil ?_
          refine hK53 _ _ _ (fun w hs => hs.mask [false, false, true, true, true]) ?_
          refine D.ofJ 17 (by as_aux_lemma => kernel_rfl) rfl fun KhK54 hK54 => ?_
          refine J.storeW 0 rfl rfl rfl rfl rfl rfl rfl Tb.sz30 (hcl _) (hcl _) (hc1 _) ?_
          refine J.nil ?_
          refine hK54 _ _ _ (fun w hs => hs.mask [false, false, true, true, true]) ?_
          refine D.done (by as_aux_lemma => kernel_rfl) ?_
          refine againK7 (g4, g5) _ trivial (okE_cons rfl (okE_cons rfl okE_nil)) (okE_cons rfl (okE_cons rfl okE_nil))
      · refine DS.ofJ rfl fun KhK55 hK55 => ?_
        refine J.alloc rfl rfl rfl rfl Tb.zz30 rfl fun g5 => ?_
        refine J.nil ?_
        refine hK55 _ _ _ (fun w hs => hs.mask [false, false, true, true, true]) ?_
        refine D.ofJ 6 (by as_aux_lemma => kernel_rfl) rfl fun KhK57 hK57 => ?_
        refine J.callv rfl rfl rfl rfl Tb.cl105 rfl ((node_spec a b).to (by rw [eab])) ?_
        refine J.nil ?_
        refine hK57 _ _ _ (fun w hs => hs.mask [false, false, true, true, true]) ?_
        refine D.ofJ 13 (by as_aux_lemma => kernel_rfl) rfl fun KhK59 hK59 => ?_
        refine J.callv rfl rfl rfl rfl Tb.cl105 rfl ((node_spec c d).to (by rw [ecd])) ?_
        refine J.nil ?_
        refine hK59 _ _ _ (fun w hs => hs.mask [false, false, true, true, true]) ?_
        refine D.ofJ 16 (by as_aux_lemma => kernel_rfl) rfl fun KhK60 hK60 => ?_
        refine J.storeW 1 rfl rfl rfl rfl rfl rfl rfl Tb.sz30 (hcl _) (hcl _) (hc1 _) ?_
        refine J.nil ?_
        refine hK60 _ _ _ (fun w hs => hs.mask [false, false, true, true, true]) ?_
        refine D.ofJ 17 (by as_aux_lemma => kernel_rfl) rfl fun KhK61 hK61 => ?_
        refine J.storeW 0 rfl rfl rfl rfl rfl rfl rfl Tb.sz30 (hcl _) (hcl _) (hc1 _) ?_
        refine J.nil ?_
        refine hK61 _ _ _ (fun w hs => hs.mask [false, false, true, true, true]) ?_
        refine D.done (by as_aux_lemma => kernel_rfl) ?_
        refine againK7 (g4, g5) _ trivial (okE_cons rfl (okE_cons rfl okE_nil)) (okE_cons rfl (okE_cons rfl okE_nil))
    · refine DS.ofJ rfl fun KhK62 hK62 => ?_
      refine J.alloc rfl rfl rfl rfl Tb.zz30 rfl fun g5 => ?_
      refine J.nil ?_
      refine hK62 _ _ _ (fun w hs => hs.mask [false, true, true, true]) ?_
      refine D.two 6 14 (by as_aux_lemma => kernel_rfl) ?_ ?_
      · refine DS.ofJ rfl fun KhK64 hK64 => ?_
        refine J.callv rfl rfl rfl rfl Tb.cl105 rfl ((node_spec a b).to (by rw [eab])) ?_
        refine J.nil ?_
        refine hK64 _ _ _ (fun w hs => hs.mask [false, true, true, true]) ?_
        refine D.two 13 14 (by as_aux_lemma => kernel_rfl) ?_ ?_
        · refine DS.ofJ rfl fun KhK66 hK66 => ?_
          refine J.callv rfl rfl rfl rfl Tb.cl105 rfl ((node_spec c d).to (by rw [ecd])) ?_
          refine J.nil ?_
          refine hK66 _ _ _ (fun w hs => hs.mask [false, true, true, true]) ?_
          refine D.ofJ 14 (by as_aux_lemma => kernel_rfl) rfl fun KhK67 hK67 => ?_
          refine J.alloc rfl rfl rfl rfl Tb.zz30 rfl fun g4 => ?_
          refine J.nil ?_
          refine hK67 _ _ _ (fun w hs => hs.mask [false, false, true, true, true]) ?_
          refine D.ofJ 16 (by as_aux_lemma => kernel_rfl) rfl fun KhK68 hK68 => ?_
          refine J.storeW 0 rfl rfl rfl rfl rfl rfl rfl Tb.sz30 (hcl _) (hcl _) (hc1 _) ?_
          refine J.nil ?_
          refine hK68 _ _ _ (fun w hs => hs.mask [false, false, true, true, true]) ?_
          refine D.ofJ 17 (by as_aux_lemma => kernel_rfl) rfl fun KhK69 hK69 => ?_
          refine J.storeW 1 rfl rfl rfl rfl rfl rfl rfl Tb.sz30 (hcl _) (hcl _) (hc1 _) ?_
          refine J.nil ?_
          refine hK69 _ _ _ (fun w hs => hs.mask [false, false, true, true, true]) ?_
          refine D.done (by as_aux_lemma => kernel_rfl) ?_
          refine JQ.front 1 rfl ?_
          refine againK7 (g4, g5) _ trivial (okE_cons rfl (okE_cons rfl okE_nil)) (okE_cons rfl (okE_cons rfl okE_nil))
        · refine DS.ofJ rfl fun KhK70 hK70 => ?_
          refine J.alloc rfl rfl rfl rfl Tb.zz30 rfl fun g4 => ?_
          refine J.nil ?_
          refine hK70 _ _ _ (fun w hs => hs.mask [false, false, true, true, true]) ?_
          refine D.ofJ 13 (by as_aux_lemma => kernel_rfl) rfl fun KhK72 hK72 => ?_
          refine J.callv rfl rfl rfl rfl Tb.cl105 rfl ((node_spec c d).to (by rw [ecd])) ?_
          refine J.nil ?_
          refine hK72 _ _ _ (fun w hs => hs.mask [false, false, true, true, true]) ?_
          refine D.ofJ 16 (by as_aux_lemma => kernel_rfl) rfl fun KhK73 hK73 => ?_
          refine J.storeW 0 rfl rfl rfl rfl rfl rfl rfl Tb.sz30 (hcl _) (hcl _) (hc1 _) ?_
          refine J.nil ?_
          refine hK73 _ _ _ (fun w hs => hs.mask [false, false, true, true, true]) ?_
          refine D.ofJ 17 (by as_aux_lemma => kernel_rfl) rfl fun KhK74 hK74 => ?_
          refine J.storeW 1 rfl rfl rfl rfl rfl rfl rfl Tb.sz30 (hcl _) (hcl _) (hc1 _) ?_
          refine J.nil ?_
          refine hK74 _ _ _ (fun w hs => hs.mask [false, false, true, true, true]) ?_
          refine D.done (by as_aux_lemma => kernel_rfl) ?_
          refine JQ.front 1 rfl ?_
          refine againK7 (g4, g5) _ trivial (okE_cons rfl (okE_cons rfl okE_nil)) (okE_cons rfl (okE_cons rfl okE_nil))
      · refine DS.ofJ rfl fun KhK75 hK75 => ?_
        refine J.alloc rfl rfl rfl rfl Tb.zz30 rfl fun g4 => ?_
        refine J.nil ?_
        refine hK75 _ _ _ (fun w hs => hs.mask [false, false, true, true, true]) ?_
        refine D.ofJ 6 (by as_aux_lemma => kernel_rfl) rfl fun KhK77 hK77 => ?_
        refine J.callv rfl rfl rfl rfl Tb.cl105 rfl ((node_spec a b).to (by rw [eab])) ?_
        refine J.nil ?_
        refine hK77 _ _ _ (fun w hs => hs.mask [false, false, true, true, true]) ?_
        refine D.ofJ 13 (by as_aux_lemma => kernel_rfl) rfl fun KhK79 hK79 => ?_
        refine J.callv rfl rfl rfl rfl Tb.cl105 rfl ((node_spec c d).to (by rw [ecd])) ?_
        refine J.nil ?_
        refine hK79 _ _ _ (fun w hs => hs.mask [false, false, true, true, true]) ?_
        refine D.ofJ 16 (by as_aux_lemma => kernel_rfl) rfl fun KhK80 hK80 => ?_
        refine J.storeW 0 rfl rfl rfl rfl rfl rfl rfl Tb.sz30 (hcl _) (hcl _) (hc1 _) ?_
        refine J.nil ?_
        refine hK80 _ _ _ (fun w hs => hs.mask [false, false, true, true, true]) ?_
        refine D.ofJ 17 (by as_aux_lemma => kernel_rfl) rfl fun KhK81 hK81 => ?_
        refine J.storeW 1 rfl rfl rfl rfl rfl rfl rfl Tb.sz30 (hcl _) (hcl _) (hc1 _) ?_
        refine J.nil ?_
        refine hK81 _ _ _ (fun w hs => hs.mask [false, false, true, true, true]) ?_
        refine D.done (by as_aux_lemma => kernel_rfl) ?_
        refine JQ.front 1 rfl ?_
        refine againK7 (g4, g5) _ trivial (okE_cons rfl (okE_cons rfl okE_nil)) (okE_cons rfl (okE_cons rfl okE_nil))
  · obtain ⟨g4, g5⟩ := sK7
    dsimp only at hK7 ⊢
    obtain htriv := hK7
    refine JQ.next hK6 ?_
    refine JC.seq fun K82 hK82 => ?_
    refine JC.region ?_
    refine J.yl (y_move rfl rfl) rfl rfl rfl ?_
    refine J.callv rfl rfl rfl rfl Tb.cl33 rfl (tnode_fnE T m 5 es clock _ hM 1 1 (by unfold in64; omega) (by unfold in64; omega) cd true (by rw [ht11]; rfl) (by rw [ht11]; rfl) (fun w h => tt_of 2 3 rfl rfl h.2)) ?_
    refine J.yl (y_move rfl rfl) rfl rfl rfl ?_
    refine J.yl (y_extract rfl rfl rfl) rfl rfl rfl ?_
    refine J.yl (y_extract rfl rfl rfl) rfl rfl rfl ?_
    refine J.alloc rfl rfl rfl rfl Tb.zz30 rfl fun g6 => ?_
    refine J.storeW 0 rfl rfl rfl rfl rfl rfl rfl Tb.sz30 (hcl _) (hcl _) (hc1 _) ?_
    refine J.yl (y_assign rfl rfl) rfl rfl rfl ?_
    refine J.nil ?_
    refine JQ.next hK82 ?_
    refine JC.seq fun K83 hK83 => ?_
    refine JC.region ?_
    refine J.yl (y_move rfl rfl) rfl rfl rfl ?_
    refine J.callv rfl rfl rfl rfl Tb.cl33 rfl (tnode_fnE T m 5 es clock _ hM 1 2 (by unfold in64; omega) (by unfold in64; omega) (H.zero) false (by rw [ht12]; rfl) (by rw [ht12]; rfl) (fun w h => tt_of 3 4 rfl rfl h.2)) ?_
    refine J.yl (y_move rfl rfl) rfl rfl rfl ?_
    refine J.yl (y_extract rfl rfl rfl) rfl rfl rfl ?_
    refine J.yl (y_extract rfl rfl rfl) rfl rfl rfl ?_
    refine J.alloc rfl rfl rfl rfl Tb.zz30 rfl fun g8 => ?_
    refine J.storeW 0 rfl rfl rfl rfl rfl rfl rfl Tb.sz30 (hcl _) (hcl _) (hc1 _) ?_
    refine J.yl (y_assign rfl rfl) rfl rfl rfl ?_
    refine J.nil ?_
    refine JQ.next hK83 ?_
    refine JC.seq fun K84 hK84 => ?_
    refine JC.region ?_
    refine J.yl (y_move rfl rfl) rfl rfl rfl ?_
    refine J.callv rfl rfl rfl rfl Tb.cl33 rfl (tnode_fnE T m 5 es clock _ hM 2 0 (by unfold in64; omega) (by unfold in64; omega) abcd true (by rw [ht20]; rfl) (by rw [ht20]; rfl) (fun w h => tt_of 4 5 rfl rfl h.2)) ?_
    refine J.yl (y_move rfl rfl) rfl rfl rfl ?_
    refine J.yl (y_extract rfl rfl rfl) rfl rfl rfl ?_
    refine J.yl (y_extract rfl rfl rfl) rfl rfl rfl ?_
    refine J.alloc rfl rfl rfl rfl Tb.zz30 rfl fun g10 => ?_
    refine J.storeW 0 rfl rfl rfl rfl rfl rfl rfl Tb.sz30 (hcl _) (hcl _) (hc1 _) ?_
    refine J.yl (y_assign rfl rfl) rfl rfl rfl ?_
    refine J.nil ?_
    refine JQ.next hK84 ?_
    refine JC.seq fun K85 hK85 => ?_
    refine JC.region ?_
    refine J.yl (y_move rfl rfl) rfl rfl rfl ?_
    refine J.callv rfl rfl rfl rfl Tb.cl35 rfl (tRoot_fnE T m 5 es clock _ hM rfl (by omega) 3 abc 0 htr rfl (fun w h => tt_of 5 6 rfl rfl h.2)) ?_
    refine J.yl (y_move rfl rfl) rfl rfl rfl ?_
    refine J.yl (y_extract rfl rfl rfl) rfl rfl rfl ?_
    refine J.yl (y_extract rfl rfl rfl) rfl rfl rfl ?_
    refine J.alloc rfl rfl rfl rfl Tb.zz30 rfl fun g12 => ?_
    refine J.storeW 0 rfl rfl rfl rfl rfl rfl rfl Tb.sz30 (hcl _) (hcl _) (hc1 _) ?_
    refine J.yl (y_assign rfl rfl) rfl rfl rfl ?_
    refine J.nil ?_
    refine JQ.next hK85 ?_
    refine JC.seq fun K86 hK86 => ?_
    refine JC.region ?_
    refine J.yl (y_move rfl rfl) rfl rfl rfl ?_
    refine J.callR (Cin := []) rfl rfl rfl rfl Tb.cl37 rfl rfl (tPath_fnE T m 5 es clock _ hM rfl (by omega) 2 5 [d, ab, e] 0 hpa rfl (fun w h => tt_of 6 7 rfl rfl h.2)) ?_
    rintro ⟨A14, k14⟩ hk14
    refine J.yl (y_move rfl rfl) rfl rfl rfl ?_
    refine J.yl (y_extract rfl rfl rfl) rfl rfl rfl ?_
    refine J.yl (y_extract rfl rfl rfl) rfl rfl rfl ?_
    refine J.yl (y_assign rfl rfl) rfl rfl rfl ?_
    refine J.yl (y_assign rfl rfl) rfl rfl rfl ?_
    refine J.nil ?_
    refine JQ.next hK86 ?_
    refine JC.seq fun K87 hK87 => ?_
    refine JC.region ?_
    refine J.yl (y_move rfl rfl) rfl rfl rfl ?_
    refine J.callR (Cin := []) rfl rfl rfl rfl Tb.cl39 rfl rfl (tProof_fnE T m 5 es clock _ hM rfl (by omega) 3 5 [c, d, ab, e] 0 hpf rfl (fun w h => tt_of 7 8 rfl rfl h.2)) ?_
    rintro ⟨A16, k16⟩ hk16
    refine J.yl (y_move rfl rfl) rfl rfl rfl ?_
    refine J.yl (y_extract rfl rfl rfl) rfl rfl rfl ?_
    refine J.yl (y_extract rfl rfl rfl) rfl rfl rfl ?_
    refine J.yl (y_assign rfl rfl) rfl rfl rfl ?_
    refine J.yl (y_assign rfl rfl) rfl rfl rfl ?_
    refine J.nil ?_
    refine JQ.next hK87 ?_
    refine JC.seq fun K88 hK88 => ?_
    refine JC.region ?_
    refine J.yl (y_move rfl rfl) rfl rfl rfl ?_
    refine J.callR (Cin := []) rfl rfl rfl rfl Tb.cl37 rfl rfl (tPath_fnE T m 5 es clock _ hM rfl (by omega) 2 6 [] 82 rfl rfl (fun w h => tt_of 8 9 rfl rfl h.2)) ?_
    rintro ⟨A18, k18⟩ hk18
    refine J.yl (y_move rfl rfl) rfl rfl rfl ?_
    refine J.yl (y_extract rfl rfl rfl) rfl rfl rfl ?_
    refine J.yl (y_extract rfl rfl rfl) rfl rfl rfl ?_
    refine J.yl (y_assign rfl rfl) rfl rfl rfl ?_
    refine J.yl (y_assign rfl rfl) rfl rfl rfl ?_
    refine J.nil ?_
    refine JQ.next hK88 ?_
    refine JC.seq fun K89 hK89 => ?_
    refine JC.region ?_
    refine J.yl (y_move rfl rfl) rfl rfl rfl ?_
    refine J.drop ?_
    refine J.callR (Cin := []) rfl rfl rfl rfl Tb.cl37 rfl rfl (tPath_fnE T m 5 es clock _ hM rfl (by omega) 3 3 [] 82 rfl rfl (fun w h => tt_of 8 9 rfl rfl h.2)) ?_
    rintro ⟨A20, k20⟩ hk20
    refine J.yl (y_move rfl rfl) rfl rfl rfl ?_
    refine J.yl (y_extract rfl rfl rfl) rfl rfl rfl ?_
    refine J.yl (y_extract rfl rfl rfl) rfl rfl rfl ?_
    refine J.yl (y_assign rfl rfl) rfl rfl rfl ?_
    refine J.yl (y_assign rfl rfl) rfl rfl rfl ?_
    refine J.nil ?_
    refine JQ.next hK89 ?_
    refine JC.seq fun K90 hK90 => ?_
    refine JC.drawM [false, true, true, true, true, true, true, true, true, true, true, true] (by as_aux_lemma => kernel_rfl) ?_
    refine D.take 0 (y_lbW 5 rfl Tb.ag30 Tb.sz30 (hcl _) rfl rfl) rfl rfl rfl rfl (by as_aux_lemma => kernel_rfl) (by as_aux_lemma => kernel_rfl) (by as_aux_lemma => kernel_rfl) (PQ.next PQ.body) ?_
    refine D.take 1 (y_lbW 6 rfl Tb.ag30 Tb.sz30 (hcl _) rfl rfl) rfl rfl rfl rfl (by as_aux_lemma => kernel_rfl) (by as_aux_lemma => kernel_rfl) (by as_aux_lemma => kernel_rfl) (PQ.next PQ.body) ?_
    refine D.take 2 (Yl.to (v' := .bool true) (y_heq rfl Tryd.underlying30 Tryd.underlying5 Tb.ag5 Tb.sz5 Tb.eg30 rfl rfl) (by rw [decide_eq_true rfl]; first | done | rfl)) rfl rfl rfl rfl (by as_aux_lemma => kernel_rfl) (by as_aux_lemma => kernel_rfl) (by as_aux_lemma => kernel_rfl) (PQ.next PQ.body) ?_
    refine D.take 3 (y_move rfl rfl) rfl rfl rfl rfl (by as_aux_lemma => kernel_rfl) (by as_aux_lemma => kernel_rfl) (by as_aux_lemma => kernel_rfl) (PQ.next PQ.body) ?_
    refine D.takeG 4 (y_move rfl rfl) rfl rfl rfl rfl rfl rfl rfl (by as_aux_lemma => kernel_rfl) (by as_aux_lemma => kernel_rfl) (by as_aux_lemma => kernel_rfl) (PQ.next PQ.body) ?_
    refine D.take 5 (y_pick rfl rfl (fun _ => rfl) (fun h => by cases h)) rfl rfl rfl rfl (by as_aux_lemma => kernel_rfl) (by as_aux_lemma => kernel_rfl) (by as_aux_lemma => kernel_rfl) (PQ.next PQ.body) ?_
    refine D.take 6 (y_move rfl rfl) rfl rfl rfl rfl (by as_aux_lemma => kernel_rfl) (by as_aux_lemma => kernel_rfl) (by as_aux_lemma => kernel_rfl) (PQ.next PQ.body) ?_
    refine D.takeG 7 (y_lbW 4 rfl Tb.ag30 Tb.sz30 (hcl _) rfl rfl) rfl rfl rfl rfl rfl rfl rfl (by as_aux_lemma => kernel_rfl) (by as_aux_lemma => kernel_rfl) (by as_aux_lemma => kernel_rfl) (PQ.next PQ.body) ?_
    refine D.takeG 8 (y_buildA (cs := hc H.zero) rfl Tryd.underlying30 Tb.zz30 Tb.sz5 rfl rfl) rfl rfl rfl rfl rfl rfl rfl (by as_aux_lemma => kernel_rfl) (by as_aux_lemma => kernel_rfl) (by as_aux_lemma => kernel_rfl) (PQ.next PQ.body) ?_
    refine D.takeG 9 (Yl.to (v' := .bool true) (y_heq rfl Tryd.underlying30 Tryd.underlying5 Tb.ag5 Tb.sz5 Tb.eg30 rfl rfl) (by rw [decide_eq_true rfl]; first | done | rfl)) rfl rfl rfl rfl rfl rfl rfl (by as_aux_lemma => kernel_rfl) (by as_aux_lemma => kernel_rfl) (by as_aux_lemma => kernel_rfl) (PQ.next PQ.body) ?_
    refine D.take 10 (y_pick rfl rfl (fun _ => rfl) (fun h => by cases h)) rfl rfl rfl rfl (by as_aux_lemma => kernel_rfl) (by as_aux_lemma => kernel_rfl) (by as_aux_lemma => kernel_rfl) (PQ.next PQ.body) ?_
    refine D.take 11 (y_move rfl rfl) rfl rfl rfl rfl (by as_aux_lemma => kernel_rfl) (by as_aux_lemma => kernel_rfl) (by as_aux_lemma => kernel_rfl) (PQ.next PQ.body) ?_
    refine D.takeG 12 (y_move rfl rfl) rfl rfl rfl rfl rfl rfl rfl (by as_aux_lemma => kernel_rfl) (by as_aux_lemma => kernel_rfl) (by as_aux_lemma => kernel_rfl) (PQ.next PQ.body) ?_
    refine D.takeG 13 ((y_not rfl rfl).to rfl) rfl rfl rfl rfl rfl rfl rfl (by as_aux_lemma => kernel_rfl) (by as_aux_lemma => kernel_rfl) (by as_aux_lemma => kernel_rfl) (PQ.next PQ.body) ?_
    refine D.take 14 (y_pick rfl rfl (fun _ => rfl) (fun h => by cases h)) rfl rfl rfl rfl (by as_aux_lemma => kernel_rfl) (by as_aux_lemma => kernel_rfl) (by as_aux_lemma => kernel_rfl) (PQ.next PQ.body) ?_
    refine D.take 15 (y_move rfl rfl) rfl rfl rfl rfl (by as_aux_lemma => kernel_rfl) (by as_aux_lemma => kernel_rfl) (by as_aux_lemma => kernel_rfl) (PQ.next PQ.body) ?_
    refine D.takeG 16 (y_lbW 3 rfl Tb.ag30 Tb.sz30 (hcl _) rfl rfl) rfl rfl rfl rfl rfl rfl rfl (by as_aux_lemma => kernel_rfl) (by as_aux_lemma => kernel_rfl) (by as_aux_lemma => kernel_rfl) (PQ.next PQ.body) ?_
    refine D.takeG 17 (y_lbW 7 rfl Tb.ag30 Tb.sz30 (hcl _) rfl rfl) rfl rfl rfl rfl rfl rfl rfl (by as_aux_lemma => kernel_rfl) (by as_aux_lemma => kernel_rfl) (by as_aux_lemma => kernel_rfl) (PQ.next PQ.body) ?_
    refine D.takeG 18 (y_lbW 6 rfl Tb.ag30 Tb.sz30 (hcl _) rfl rfl) rfl rfl rfl rfl rfl rfl rfl (by as_aux_lemma => kernel_rfl) (by as_aux_lemma => kernel_rfl) (by as_aux_lemma => kernel_rfl) (PQ.next PQ.body) ?_
    refine D.ofJ 19 (by as_aux_lemma => kernel_rfl) rfl fun KhK92 hK92 => ?_
    refine J.gon rfl rfl rfl rfl ?_
    refine J.callv rfl rfl rfl rfl Tb.cl105 rfl ((node_spec ab cd).to (by rw [eabcd])) ?_
    refine J.nil ?_
    refine hK92 _ _ _ (fun w hs => hs.mask [false, true, true, true, true, true, true, true, true, true, true, true]) ?_
    refine D.takeG 20 (Yl.to (v' := .bool true) (y_heq rfl Tryd.underlying30 Tryd.underlying5 Tb.ag5 Tb.sz5 Tb.eg30 rfl rfl) (by rw [decide_eq_true rfl]; first | done | rfl)) rfl rfl rfl rfl rfl rfl rfl (by as_aux_lemma => kernel_rfl) (by as_aux_lemma => kernel_rfl) (by as_aux_lemma => kernel_rfl) (PQ.next PQ.body) ?_
    refine D.take 21 (y_pick rfl rfl (fun _ => rfl) (fun h => by cases h)) rfl rfl rfl rfl (by as_aux_lemma => kernel_rfl) (by as_aux_lemma => kernel_rfl) (by as_aux_lemma => kernel_rfl) (PQ.next PQ.body) ?_
    refine D.take 22 (y_move rfl rfl) rfl rfl rfl rfl (by as_aux_lemma => kernel_rfl) (by as_aux_lemma => kernel_rfl) (by as_aux_lemma => kernel_rfl) (PQ.next PQ.body) ?_
    refine D.takeG 23 (y_move rfl rfl) rfl rfl rfl rfl rfl rfl rfl (by as_aux_lemma => kernel_rfl) (by as_aux_lemma => kernel_rfl) (by as_aux_lemma => kernel_rfl) (PQ.next PQ.body) ?_
    refine D.take 24 (y_pick rfl rfl (fun _ => rfl) (fun h => by cases h)) rfl rfl rfl rfl (by as_aux_lemma => kernel_rfl) (by as_aux_lemma => kernel_rfl) (by as_aux_lemma => kernel_rfl) (PQ.next PQ.body) ?_
    refine D.take 25 (y_move rfl rfl) rfl rfl rfl rfl (by as_aux_lemma => kernel_rfl) (by as_aux_lemma => kernel_rfl) (by as_aux_lemma => kernel_rfl) (PQ.next PQ.body) ?_
    refine D.takeG 26 (y_lbW 2 rfl Tb.ag30 Tb.sz30 (hcl _) rfl rfl) rfl rfl rfl rfl rfl rfl rfl (by as_aux_lemma => kernel_rfl) (by as_aux_lemma => kernel_rfl) (by as_aux_lemma => kernel_rfl) (PQ.next PQ.body) ?_
    refine D.takeG 27 (y_lbW 7 rfl Tb.ag30 Tb.sz30 (hcl _) rfl rfl) rfl rfl rfl rfl rfl rfl rfl (by as_aux_lemma => kernel_rfl) (by as_aux_lemma => kernel_rfl) (by as_aux_lemma => kernel_rfl) (PQ.next PQ.body) ?_
    refine D.takeG 28 (y_move rfl rfl) rfl rfl rfl rfl rfl rfl rfl (by as_aux_lemma => kernel_rfl) (by as_aux_lemma => kernel_rfl) (by as_aux_lemma => kernel_rfl) (PQ.next PQ.body) ?_
    refine D.takeG 29 (y_hidx (n := 5) (l := [a, b, c, d, e]) 2 rfl Tryd.underlying22 Tb.sz30 rfl rfl rfl rfl (by omega) (fun w hs => strow hs 10 rfl)) rfl rfl rfl rfl rfl rfl rfl (by as_aux_lemma => kernel_rfl) (by as_aux_lemma => kernel_rfl) (by as_aux_lemma => kernel_rfl) (PQ.next PQ.body) ?_
    refine D.takeG 30 (y_hld (l := [a, b, c, d, e]) c rfl Tb.ag30 Tb.sz30 rfl rfl (fun w hs => strow hs 10 rfl)) rfl rfl rfl rfl rfl rfl rfl (by as_aux_lemma => kernel_rfl) (by as_aux_lemma => kernel_rfl) (by as_aux_lemma => kernel_rfl) (PQ.next PQ.body) ?_
    refine D.ofJ 31 (by as_aux_lemma => kernel_rfl) rfl fun KhK94 hK94 => ?_
    refine J.gon rfl rfl rfl rfl ?_
    refine J.callv rfl rfl rfl rfl Tb.cl105 rfl ((node_spec ab c).to (by rw [eabc])) ?_
    refine J.nil ?_
    refine hK94 _ _ _ (fun w hs => hs.mask [false, true, true, true, true, true, true, true, true, true, true, true]) ?_
    refine D.takeG 32 (Yl.to (v' := .bool true) (y_heq rfl Tryd.underlying30 Tryd.underlying5 Tb.ag5 Tb.sz5 Tb.eg30 rfl rfl) (by rw [decide_eq_true rfl]; first | done | rfl)) rfl rfl rfl rfl rfl rfl rfl (by as_aux_lemma => kernel_rfl) (by as_aux_lemma => kernel_rfl) (by as_aux_lemma => kernel_rfl) (PQ.next PQ.body) ?_
    refine D.take 33 (y_pick rfl rfl (fun _ => rfl) (fun h => by cases h)) rfl rfl rfl rfl (by as_aux_lemma => kernel_rfl) (by as_aux_lemma => kernel_rfl) (by as_aux_lemma => kernel_rfl) (PQ.next PQ.body) ?_
    refine D.take 34 (y_move rfl rfl) rfl rfl rfl rfl (by as_aux_lemma => kernel_rfl) (by as_aux_lemma => kernel_rfl) (by as_aux_lemma => kernel_rfl) (PQ.next PQ.body) ?_
    refine D.takeG 35 (y_move rfl rfl) rfl rfl rfl rfl rfl rfl rfl (by as_aux_lemma => kernel_rfl) (by as_aux_lemma => kernel_rfl) (by as_aux_lemma => kernel_rfl) (PQ.next PQ.body) ?_
    refine D.takeG 36 ((y_eq rfl rfl rfl).to rfl) rfl rfl rfl rfl rfl rfl rfl (by as_aux_lemma => kernel_rfl) (by as_aux_lemma => kernel_rfl) (by as_aux_lemma => kernel_rfl) (PQ.next PQ.body) ?_
    refine D.take 37 (y_pick rfl rfl (fun _ => rfl) (fun h => by cases h)) rfl rfl rfl rfl (by as_aux_lemma => kernel_rfl) (by as_aux_lemma => kernel_rfl) (by as_aux_lemma => kernel_rfl) (PQ.next PQ.body) ?_
    refine D.take 38 (y_move rfl rfl) rfl rfl rfl rfl (by as_aux_lemma => kernel_rfl) (by as_aux_lemma => kernel_rfl) (by as_aux_lemma => kernel_rfl) (PQ.next PQ.body) ?_
    refine D.takeG 39 (y_move rfl rfl) rfl rfl rfl rfl rfl rfl rfl (by as_aux_lemma => kernel_rfl) (by as_aux_lemma => kernel_rfl) (by as_aux_lemma => kernel_rfl) (PQ.next PQ.body) ?_
    refine D.takeG 40 (y_move rfl rfl) rfl rfl rfl rfl rfl rfl rfl (by as_aux_lemma => kernel_rfl) (by as_aux_lemma => kernel_rfl) (by as_aux_lemma => kernel_rfl) (PQ.next PQ.body) ?_
    refine D.takeG 43 (y_lbW 7 rfl Tb.ag30 Tb.sz30 (hcl _) rfl rfl) rfl rfl rfl rfl rfl rfl rfl (by as_aux_lemma => kernel_rfl) (by as_aux_lemma => kernel_rfl) (by as_aux_lemma => kernel_rfl) (PQ.next PQ.body) ?_
    refine D.takeG 44 (y_move rfl rfl) rfl rfl rfl rfl rfl rfl rfl (by as_aux_lemma => kernel_rfl) (by as_aux_lemma => kernel_rfl) (by as_aux_lemma => kernel_rfl) (PQ.next PQ.body) ?_
    refine D.takeG 41 (y_hidx (n := 5) (l := [a, b, c, d, e]) 3 rfl Tryd.underlying22 Tb.sz30 rfl rfl rfl rfl (by omega) (fun w hs => strow hs 10 rfl)) rfl rfl rfl rfl rfl rfl rfl (by as_aux_lemma => kernel_rfl) (by as_aux_lemma => kernel_rfl) (by as_aux_lemma => kernel_rfl) (PQ.next PQ.body) ?_
    refine D.takeG 42 (y_hld (l := [a, b, c, d, e]) d rfl Tb.ag30 Tb.sz30 rfl rfl (fun w hs => strow hs 10 rfl)) rfl rfl rfl rfl rfl rfl rfl (by as_aux_lemma => kernel_rfl) (by as_aux_lemma => kernel_rfl) (by as_aux_lemma => kernel_rfl) (PQ.next PQ.body) ?_
    refine D.takeG 45 (y_hidx (n := 5) (l := [a, b, c, d, e]) 4 rfl Tryd.underlying22 Tb.sz30 rfl rfl rfl rfl (by omega) (fun w hs => strow hs 10 rfl)) rfl rfl rfl rfl rfl rfl rfl (by as_aux_lemma => kernel_rfl) (by as_aux_lemma => kernel_rfl) (by as_aux_lemma => kernel_rfl) (PQ.next PQ.body) ?_
    refine D.takeG 46 (y_hld (l := [a, b, c, d, e]) e rfl Tb.ag30 Tb.sz30 rfl rfl (fun w hs => strow hs 10 rfl)) rfl rfl rfl rfl rfl rfl rfl (by as_aux_lemma => kernel_rfl) (by as_aux_lemma => kernel_rfl) (by as_aux_lemma => kernel_rfl) (PQ.next PQ.body) ?_
    refine D.ofJ 47 (by as_aux_lemma => kernel_rfl) rfl fun KhK96 hK96 => ?_
    refine J.gon rfl rfl rfl rfl ?_
    refine J.bsN (cs := hcs ([d, ab, e])) ([d, ab, e]) hv hc hv_cells hcl rfl rfl rfl rfl rfl rfl Tryd.underlying22 Tb.zz30 Tb.sz30 rfl rfl fun g131 => ?_
    refine J.nil ?_
    refine hK96 _ _ _ (fun w hs => hs.mask [false, false, true, true, true, true, true, true, true, true, true, true, true]) ?_
    refine D.ofJ 48 (by as_aux_lemma => kernel_rfl) rfl fun KhK98 hK98 => ?_
    refine J.gon rfl rfl rfl rfl ?_
    refine J.callv rfl rfl rfl rfl Tb.cl26 rfl ((same_fn [d, ab, e] [d, ab, e] _ _ 3 3 _ _ rfl rfl (by omega) (fun w h => ckrow 3 rfl h) (fun w h => ckrow 0 rfl h)).to (by rw [decide_eq_true rfl])) ?_
    refine J.nil ?_
    refine hK98 _ _ _ (fun w hs => hs.mask [false, false, true, true, true, true, true, true, true, true, true, true, true]) ?_
    refine D.take 49 (y_pick rfl rfl (fun _ => rfl) (fun h => by cases h)) rfl rfl rfl rfl (by as_aux_lemma => kernel_rfl) (by as_aux_lemma => kernel_rfl) (by as_aux_lemma => kernel_rfl) (PQ.next PQ.body) ?_
    refine D.take 50 (y_move rfl rfl) rfl rfl rfl rfl (by as_aux_lemma => kernel_rfl) (by as_aux_lemma => kernel_rfl) (by as_aux_lemma => kernel_rfl) (PQ.next PQ.body) ?_
    refine D.takeG 51 (y_move rfl rfl) rfl rfl rfl rfl rfl rfl rfl (by as_aux_lemma => kernel_rfl) (by as_aux_lemma => kernel_rfl) (by as_aux_lemma => kernel_rfl) (PQ.next PQ.body) ?_
    refine D.takeG 52 ((y_eq rfl rfl rfl).to rfl) rfl rfl rfl rfl rfl rfl rfl (by as_aux_lemma => kernel_rfl) (by as_aux_lemma => kernel_rfl) (by as_aux_lemma => kernel_rfl) (PQ.next PQ.body) ?_
    refine D.take 53 (y_pick rfl rfl (fun _ => rfl) (fun h => by cases h)) rfl rfl rfl rfl (by as_aux_lemma => kernel_rfl) (by as_aux_lemma => kernel_rfl) (by as_aux_lemma => kernel_rfl) (PQ.next PQ.body) ?_
    refine D.take 54 (y_move rfl rfl) rfl rfl rfl rfl (by as_aux_lemma => kernel_rfl) (by as_aux_lemma => kernel_rfl) (by as_aux_lemma => kernel_rfl) (PQ.next PQ.body) ?_
    refine D.takeG 55 (y_move rfl rfl) rfl rfl rfl rfl rfl rfl rfl (by as_aux_lemma => kernel_rfl) (by as_aux_lemma => kernel_rfl) (by as_aux_lemma => kernel_rfl) (PQ.next PQ.body) ?_
    refine D.takeG 56 (y_move rfl rfl) rfl rfl rfl rfl rfl rfl rfl (by as_aux_lemma => kernel_rfl) (by as_aux_lemma => kernel_rfl) (by as_aux_lemma => kernel_rfl) (PQ.next PQ.body) ?_
    refine D.takeG 59 (y_move rfl rfl) rfl rfl rfl rfl rfl rfl rfl (by as_aux_lemma => kernel_rfl) (by as_aux_lemma => kernel_rfl) (by as_aux_lemma => kernel_rfl) (PQ.next PQ.body) ?_
    refine D.takeG 62 (y_lbW 7 rfl Tb.ag30 Tb.sz30 (hcl _) rfl rfl) rfl rfl rfl rfl rfl rfl rfl (by as_aux_lemma => kernel_rfl) (by as_aux_lemma => kernel_rfl) (by as_aux_lemma => kernel_rfl) (PQ.next PQ.body) ?_
    refine D.takeG 63 (y_move rfl rfl) rfl rfl rfl rfl rfl rfl rfl (by as_aux_lemma => kernel_rfl) (by as_aux_lemma => kernel_rfl) (by as_aux_lemma => kernel_rfl) (PQ.next PQ.body) ?_
    refine D.takeG 57 (y_hidx (n := 5) (l := [a, b, c, d, e]) 2 rfl Tryd.underlying22 Tb.sz30 rfl rfl rfl rfl (by omega) (fun w hs => strow hs 10 rfl)) rfl rfl rfl rfl rfl rfl rfl (by as_aux_lemma => kernel_rfl) (by as_aux_lemma => kernel_rfl) (by as_aux_lemma => kernel_rfl) (PQ.next PQ.body) ?_
    refine D.takeG 58 (y_hld (l := [a, b, c, d, e]) c rfl Tb.ag30 Tb.sz30 rfl rfl (fun w hs => strow hs 10 rfl)) rfl rfl rfl rfl rfl rfl rfl (by as_aux_lemma => kernel_rfl) (by as_aux_lemma => kernel_rfl) (by as_aux_lemma => kernel_rfl) (PQ.next PQ.body) ?_
    refine D.takeG 60 (y_hidx (n := 5) (l := [a, b, c, d, e]) 3 rfl Tryd.underlying22 Tb.sz30 rfl rfl rfl rfl (by omega) (fun w hs => strow hs 10 rfl)) rfl rfl rfl rfl rfl rfl rfl (by as_aux_lemma => kernel_rfl) (by as_aux_lemma => kernel_rfl) (by as_aux_lemma => kernel_rfl) (PQ.next PQ.body) ?_
    refine D.takeG 61 (y_hld (l := [a, b, c, d, e]) d rfl Tb.ag30 Tb.sz30 rfl rfl (fun w hs => strow hs 10 rfl)) rfl rfl rfl rfl rfl rfl rfl (by as_aux_lemma => kernel_rfl) (by as_aux_lemma => kernel_rfl) (by as_aux_lemma => kernel_rfl) (PQ.next PQ.body) ?_
    refine D.takeG 64 (y_hidx (n := 5) (l := [a, b, c, d, e]) 4 rfl Tryd.underlying22 Tb.sz30 rfl rfl rfl rfl (by omega) (fun w hs => strow hs 10 rfl)) rfl rfl rfl rfl rfl rfl rfl (by as_aux_lemma => kernel_rfl) (by as_aux_lemma => kernel_rfl) (by as_aux_lemma => kernel_rfl) (PQ.next PQ.body) ?_
    refine D.takeG 65 (y_hld (l := [a, b, c, d, e]) e rfl Tb.ag30 Tb.sz30 rfl rfl (fun w hs => strow hs 10 rfl)) rfl rfl rfl rfl rfl rfl rfl (by as_aux_lemma => kernel_rfl) (by as_aux_lemma => kernel_rfl) (by as_aux_lemma => kernel_rfl) (PQ.next PQ.body) ?_
    refine D.ofJ 66 (by as_aux_lemma => kernel_rfl) rfl fun KhK100 hK100 => ?_
    refine J.gon rfl rfl rfl rfl ?_
    refine J.bsN (cs := hcs ([c, d, ab, e])) ([c, d, ab, e]) hv hc hv_cells hcl rfl rfl rfl rfl rfl rfl Tryd.underlying22 Tb.zz30 Tb.sz30 rfl rfl fun g150 => ?_
    refine J.nil ?_
    refine hK100 _ _ _ (fun w hs => hs.mask [false, false, false, true, true, true, true, true, true, true, true, true, true, true]) ?_
    refine D.ofJ 67 (by as_aux_lemma => kernel_rfl) rfl fun KhK102 hK102 => ?_
    refine J.gon rfl rfl rfl rfl ?_
    refine J.callv rfl rfl rfl rfl Tb.cl26 rfl ((same_fn [c, d, ab, e] [c, d, ab, e] _ _ 4 4 _ _ rfl rfl (by omega) (fun w h => ckrow 3 rfl h) (fun w h => ckrow 0 rfl h)).to (by rw [decide_eq_true rfl])) ?_
    refine J.nil ?_
    refine hK102 _ _ _ (fun w hs => hs.mask [false, false, false, true, true, true, true, true, true, true, true, true, true, true]) ?_
    refine D.take 68 (y_pick rfl rfl (fun _ => rfl) (fun h => by cases h)) rfl rfl rfl rfl (by as_aux_lemma => kernel_rfl) (by as_aux_lemma => kernel_rfl) (by as_aux_lemma => kernel_rfl) (PQ.next PQ.body) ?_
    refine D.take 69 (y_move rfl rfl) rfl rfl rfl rfl (by as_aux_lemma => kernel_rfl) (by as_aux_lemma => kernel_rfl) (by as_aux_lemma => kernel_rfl) (PQ.next PQ.body) ?_
    refine D.takeG 70 (y_move rfl rfl) rfl rfl rfl rfl rfl rfl rfl (by as_aux_lemma => kernel_rfl) (by as_aux_lemma => kernel_rfl) (by as_aux_lemma => kernel_rfl) (PQ.next PQ.body) ?_
    refine D.takeG 71 ((y_eq rfl rfl rfl).to rfl) rfl rfl rfl rfl rfl rfl rfl (by as_aux_lemma => kernel_rfl) (by as_aux_lemma => kernel_rfl) (by as_aux_lemma => kernel_rfl) (PQ.next PQ.body) ?_
    refine D.take 72 (y_pick rfl rfl (fun _ => rfl) (fun h => by cases h)) rfl rfl rfl rfl (by as_aux_lemma => kernel_rfl) (by as_aux_lemma => kernel_rfl) (by as_aux_lemma => kernel_rfl) (PQ.next PQ.body) ?_
    refine D.take 73 (y_move rfl rfl) rfl rfl rfl rfl (by as_aux_lemma => kernel_rfl) (by as_aux_lemma => kernel_rfl) (by as_aux_lemma => kernel_rfl) (PQ.next PQ.body) ?_
    refine D.takeG 74 (y_move rfl rfl) rfl rfl rfl rfl rfl rfl rfl (by as_aux_lemma => kernel_rfl) (by as_aux_lemma => kernel_rfl) (by as_aux_lemma => kernel_rfl) (PQ.next PQ.body) ?_
    refine D.takeG 75 ((y_eq rfl rfl rfl).to rfl) rfl rfl rfl rfl rfl rfl rfl (by as_aux_lemma => kernel_rfl) (by as_aux_lemma => kernel_rfl) (by as_aux_lemma => kernel_rfl) (PQ.next PQ.body) ?_
    refine D.take 76 (y_pick rfl rfl (fun _ => rfl) (fun h => by cases h)) rfl rfl rfl rfl (by as_aux_lemma => kernel_rfl) (by as_aux_lemma => kernel_rfl) (by as_aux_lemma => kernel_rfl) (PQ.next PQ.body) ?_
    refine D.take 77 (y_move rfl rfl) rfl rfl rfl rfl (by as_aux_lemma => kernel_rfl) (by as_aux_lemma => kernel_rfl) (by as_aux_lemma => kernel_rfl) (PQ.next PQ.body) ?_
    refine D.takeG 78 (y_move rfl rfl) rfl rfl rfl rfl rfl rfl rfl (by as_aux_lemma => kernel_rfl) (by as_aux_lemma => kernel_rfl) (by as_aux_lemma => kernel_rfl) (PQ.next PQ.body) ?_
    refine D.takeG 79 ((y_eq rfl rfl rfl).to rfl) rfl rfl rfl rfl rfl rfl rfl (by as_aux_lemma => kernel_rfl) (by as_aux_lemma => kernel_rfl) (by as_aux_lemma => kernel_rfl) (PQ.next PQ.body) ?_
    refine D.take 80 (y_pick rfl rfl (fun _ => rfl) (fun h => by cases h)) rfl rfl rfl rfl (by as_aux_lemma => kernel_rfl) (by as_aux_lemma => kernel_rfl) (by as_aux_lemma => kernel_rfl) (PQ.next PQ.body) ?_
    refine D.take 81 (y_move rfl rfl) rfl rfl rfl rfl (by as_aux_lemma => kernel_rfl) (by as_aux_lemma => kernel_rfl) (by as_aux_lemma => kernel_rfl) (PQ.next PQ.body) ?_
    refine D.takeG 82 (y_lbW 7 rfl Tb.ag30 Tb.sz30 (hcl _) rfl rfl) rfl rfl rfl rfl rfl rfl rfl (by as_aux_lemma => kernel_rfl) (by as_aux_lemma => kernel_rfl) (by as_aux_lemma => kernel_rfl) (PQ.next PQ.body) ?_
    refine D.takeG 83 (y_buildA (cs := hc H.zero) rfl Tryd.underlying30 Tb.zz30 Tb.sz5 rfl rfl) rfl rfl rfl rfl rfl rfl rfl (by as_aux_lemma => kernel_rfl) (by as_aux_lemma => kernel_rfl) (by as_aux_lemma => kernel_rfl) (PQ.next PQ.body) ?_
    refine D.takeG 84 (y_hne rfl Tryd.underlying30 Tryd.underlying5 Tb.ag5 Tb.sz5 Tb.eg30 rfl rfl) rfl rfl rfl rfl rfl rfl rfl (by as_aux_lemma => kernel_rfl) (by as_aux_lemma => kernel_rfl) (by as_aux_lemma => kernel_rfl) (PQ.next PQ.body) ?_
    refine D.take 85 (y_pick rfl rfl (fun _ => rfl) (fun h => by cases h)) rfl rfl rfl rfl (by as_aux_lemma => kernel_rfl) (by as_aux_lemma => kernel_rfl) (by as_aux_lemma => kernel_rfl) (PQ.next PQ.body) ?_
    refine D.take 86 (y_assign rfl rfl) rfl rfl rfl rfl (by as_aux_lemma => kernel_rfl) (by as_aux_lemma => kernel_rfl) (by as_aux_lemma => kernel_rfl) (PQ.next PQ.body) ?_
    refine D.done (by as_aux_lemma => kernel_rfl) ?_
    refine JQ.next hK90 ?_
    refine JC.ret ?_
    exact ret1 rfl (r_tmp rfl) fun w hs => by rw [decide_eq_false hnz]; exact Post.pure hs
end Go.Proofs.YtjkfeonbioccmaaDoor
