/- Speculum proofs: contracts of the lowest functions: hashes' texts, trees. -/
import Derived.Test.YtjkfeonbioccmaaDoorShaI
import Derived.Test.YtjkfeonbioccmaaDoorTr
namespace Go.Proofs.YtjkfeonbioccmaaDoor
open Go Go.Sx Go.RowKit
set_option linter.unusedVariables false
set_option linter.unusedSimpArgs false
set_option maxRecDepth 100000
set_option maxHeartbeats 400000
variable {Gl F : World → Prop}
def Gs (w : World) : Prop := glS 0 1 w

theorem hash_spec (h : H) : PureFn Tryd.prog Gl 160 [hv h] F (str h.b) := by
  refine FnSpec.intro Tryd.func160 rfl Tryd.ntmps160 rfl fun X M w => ?_
  refine JC.seq fun K1 hK1 => ?_
  refine JC.region ?_
  refine J.box rfl rfl rfl rfl rfl rfl fun g1 => ?_
  refine J.yl (y_assign rfl rfl) rfl rfl rfl ?_
  refine J.nil ?_
  refine JQ.next hK1 ?_
  refine JC.seq fun K2 hK2 => ?_
  refine JC.region ?_
  refine J.yl (y_cutarr rfl Tryd.underlying30 (by rw [Tb.sz5]; rfl) (by decide) rfl) rfl rfl rfl ?_
  refine J.yl (y_b2s (bs := h.b) rfl Tryd.underlying205 Tryd.underlying5 Tryd.underlying9 (by rw [h.l]; rfl) (fun w hs => .inr ⟨rfl, by exact At.box (hs.get (i := 0) rfl)⟩)) rfl rfl rfl ?_
  refine J.yl (y_assign rfl rfl) rfl rfl rfl ?_
  refine J.nil ?_
  refine JQ.next hK2 ?_
  refine JC.ret ?_
  exact ret1 rfl (r_tmp rfl) fun w hs => Post.pure hs
theorem leaf_spec (s : List UInt8) (hl : s.length ≤ 100000) : PureFn Tryd.prog Gs 48 [str s] F (hv (leaf s)) := by
  refine FnSpec.intro Tryd.func48 rfl Tryd.ntmps48 rfl fun X M w => ?_
  refine JC.seq fun K1 hK1 => ?_
  refine JC.region ?_
  refine J.alloc rfl rfl rfl rfl Tb.zz30 rfl fun g2 => ?_
  refine J.nil ?_
  refine JQ.next hK1 ?_
  refine JC.seq fun K2 hK2 => ?_
  refine JC.region ?_
  refine J.yl (y_move rfl rfl) rfl rfl rfl ?_
  refine J.yl (y_sadd (a := [0]) rfl rfl rfl (by simp only [List.length_append, List.length_cons, List.length_nil, H.l, List.length_replicate, length_putB]; omega)) rfl rfl rfl ?_
  refine J.callv rfl rfl rfl rfl Tb.cl113 rfl (sum_spec (fun _ h => h) _ (by simp; omega)) ?_
  refine J.storeW 0 rfl rfl rfl rfl rfl rfl rfl Tb.sz30 (hcl _) (hcl _) (hc1 _) ?_
  refine J.nil ?_
  refine JQ.next hK2 ?_
  refine JC.ret ?_
  exact ret1 rfl (r_cellA 0 rfl rfl Tb.ag30 (by rw [hcl]; exact Tb.sz30)) fun w hs => Post.pure hs
theorem node_spec (a b : H) : PureFn Tryd.prog Gs 105 [hv a, hv b] F (hv (node a b)) := by
  refine FnSpec.intro Tryd.func105 rfl Tryd.ntmps105 rfl fun X M w => ?_
  refine JC.seq fun K1 hK1 => ?_
  refine JC.region ?_
  refine J.box rfl rfl rfl rfl rfl rfl fun g2 => ?_
  refine J.box rfl rfl rfl rfl rfl rfl fun g3 => ?_
  refine J.alloc rfl rfl rfl rfl Tb.zz30 rfl fun g4 => ?_
  refine J.nil ?_
  refine JQ.next hK1 ?_
  refine JC.seq fun K2 hK2 => ?_
  refine JC.draw (by kernel_rfl) ?_
  refine D.take 0 (y_lbW 2 rfl Tb.ag30 Tb.sz30 (hcl _) rfl rfl) rfl rfl rfl rfl (by kernel_rfl) (by kernel_rfl) (by kernel_rfl) (PQ.next PQ.body) ?_
  refine D.take 3 (y_lbW 1 rfl Tb.ag30 Tb.sz30 (hcl _) rfl rfl) rfl rfl rfl rfl (by kernel_rfl) (by kernel_rfl) (by kernel_rfl) (PQ.next PQ.body) ?_
  refine D.callv 1 (by kernel_rfl) rfl rfl rfl rfl rfl Tb.cl160 rfl (hash_spec a) ?_
  refine D.take 2 (y_sadd (a := [1]) rfl rfl rfl (by simp only [List.length_append, List.length_cons, List.length_nil, H.l, List.length_replicate, length_putB]; omega)) rfl rfl rfl rfl (by kernel_rfl) (by kernel_rfl) (by kernel_rfl) (PQ.next PQ.body) ?_
  refine D.callv 4 (by kernel_rfl) rfl rfl rfl rfl rfl Tb.cl160 rfl (hash_spec b) ?_
  refine D.take 5 (y_sadd rfl rfl rfl (by simp only [List.length_append, List.length_cons, List.length_nil, H.l, List.length_replicate, length_putB]; omega)) rfl rfl rfl rfl (by kernel_rfl) (by kernel_rfl) (by kernel_rfl) (PQ.next PQ.body) ?_
  refine D.callv 6 (by kernel_rfl) rfl rfl rfl rfl rfl Tb.cl113 rfl (sum_spec (fun _ h => h) _ (by simp [a.l, b.l])) ?_
  refine D.storeW 7 0 (by kernel_rfl) rfl (by kernel_rfl) (by kernel_rfl) rfl rfl rfl rfl rfl rfl rfl Tb.sz30  (hcl _) (hcl _) (hc1 _) ?_
  refine JQ.next hK2 ?_
  refine JC.ret ?_
  exact ret1 rfl (r_cellA 0 rfl rfl Tb.ag30 (by rw [hcl]; exact Tb.sz30)) fun w hs => Post.pure hs
theorem rhash_spec (h : H) : PureFn Tryd.prog Gl 175 [hv h] F (str h.b) := by
  have hl := h.l
  refine FnSpec.intro Tryd.func175 rfl Tryd.ntmps175 rfl fun X M w => ?_
  refine JC.seq fun K1 hK1 => ?_
  refine JC.region ?_
  refine J.box rfl rfl rfl rfl rfl rfl fun g1 => ?_
  refine J.yl (y_assign rfl rfl) rfl rfl rfl ?_
  refine J.nil ?_
  refine JQ.next hK1 ?_
  refine JC.seq fun K2 hK2 => ?_
  refine JC.region ?_
  refine J.yl (y_assign rfl rfl) rfl rfl rfl ?_
  refine J.nil ?_
  refine JQ.next hK2 ?_
  refine JC.seq fun K3 hK3 => ?_
  refine JC.seq fun K4 hK4 => ?_
  refine JC.region ?_
  refine J.yl (y_assign rfl rfl) rfl rfl rfl ?_
  refine J.nil ?_
  refine JQ.next hK4 ?_
  refine JC.block ?_
  refine JC.st ?_ (fun w hs => hs.nilrow 5 1)
  refine JC.loopE (σ := Nat × Option Addr × Nat) (M := fun q => [(4, .int .i64 (q.1 : Int)), (3, .slice q.2.1 q.1 q.2.2)]) (kp := [(1, _)]) (hkp := (okE_cons rfl okE_nil)) (Dc := fun q => [.row (.slice q.2.1 q.1 q.2.2) 5 1 q.1 ((h.b.take q.1).map u8), .box g1 30 (hc h)]) (H := fun _ => F) (Ψ := fun q => q.1 ≤ 32) (μ := fun q => 32 - q.1) (0, none, 0) (by dsimp only; omega) (okE_cons rfl (okE_cons rfl okE_nil)) (fun w h => h) (fun sK5 hK5 K5 againK5 => ?_)
  obtain ⟨i, A, k⟩ := sK5
  dsimp only at hK5 againK5 ⊢
  obtain hi := hK5
  refine JC.seq fun K6 hK6 => ?_
  refine JC.seq fun K7 hK7 => ?_
  refine JC.region ?_
  refine J.yl (y_move rfl rfl) rfl rfl rfl ?_
  refine J.yl (y_lt rfl rfl rfl) rfl rfl rfl ?_
  refine J.nil ?_
  refine JQ.next hK7 ?_
  refine JC.condp rfl (fun h1 => ?_) (fun h1 => ?_)
  · refine JC.skip ?_
    refine JQ.next hK6 ?_
    refine JC.seq fun K8 hK8 => ?_
    refine JC.block ?_
    refine JC.region ?_
    refine J.yl (y_move rfl rfl) rfl rfl rfl ?_
    refine J.yl (y_move rfl rfl) rfl rfl rfl ?_
    refine J.yl (y_ib1 i rfl Tryd.underlying30 Tb.sz5 rfl rfl rfl (by omega)) rfl rfl rfl ?_
    refine J.yl (y_lb 1 rfl Tb.ag5 rfl rfl (bytes_get h.b (by omega))) rfl rfl rfl ?_
    refine J.bs1 rfl rfl rfl rfl rfl Tryd.underlying205 Tb.zz5 Tb.sz5 rfl (by decide) rfl rfl fun g13 => ?_
    refine J.append 1 rfl rfl rfl rfl rfl rfl Tryd.underlying205 Tb.zz5 Tb.sz5 Tb.by5 rfl (by decide) rfl rfl (fun w hs => .inr ⟨rfl, At.box (hs.get (i := 0) rfl)⟩) (one1 rfl) (by omega) (by decide) (rfl) (bytes_take h.b (by omega)) fun A k hAx hkx => ?_
    refine J.drop ?_
    refine J.yl (y_assign rfl rfl) rfl rfl rfl ?_
    refine J.nil ?_
    refine JQ.block_normal (JQ.next hK8 ?_)
    refine JC.region ?_
    refine J.yl (y_move rfl rfl) rfl rfl rfl ?_
    refine J.yl (y_add64 rfl rfl rfl (by omega)) rfl rfl rfl ?_
    refine J.yl (y_assign rfl rfl) rfl rfl rfl ?_
    refine J.nil ?_
    refine againK5 (i + 1, A, k) _ (by dsimp only; omega) (by dsimp only; omega) (okE_cons rfl (okE_cons rfl okE_nil)) (okE_cons rfl okE_nil)
  · obtain rfl : i = 32 := by omega
    refine JC.exit ?_
    refine JQ.then_exit (JQ.then_exit (JQ.block_hit (JQ.next hK3 ?_)))
    refine JC.seq fun K10 hK10 => ?_
    refine JC.region ?_
    refine J.yl (y_move rfl rfl) rfl rfl rfl ?_
    refine J.yl (y_b2sN (bs := h.b) rfl Tryd.underlying205 Tryd.underlying5 Tryd.underlying9 rfl hl (fun w hs => by have := Sl.of_row (hs.get (i := 0) rfl); rwa [List.take_of_length_le (by omega)] at this)) rfl rfl rfl ?_
    refine J.yl (y_assign rfl rfl) rfl rfl rfl ?_
    refine J.nil ?_
    refine JQ.next hK10 ?_
    refine JC.ret ?_
    exact ret1 rfl (r_tmp rfl) fun w hs => Post.pure hs
theorem rleaf_spec (s : List UInt8) (hl : s.length ≤ 100000) : PureFn Tryd.prog Gl 144 [str s] F (hv (leaf s)) := by
  refine FnSpec.intro Tryd.func144 rfl Tryd.ntmps144 rfl fun X M w => ?_
  refine JC.seq fun K1 hK1 => ?_
  refine JC.region ?_
  refine J.alloc rfl rfl rfl rfl Tb.zz30 rfl fun g2 => ?_
  refine J.nil ?_
  refine JQ.next hK1 ?_
  refine JC.seq fun K2 hK2 => ?_
  refine JC.region ?_
  refine J.yl (y_move rfl rfl) rfl rfl rfl ?_
  refine J.yl (y_sadd (a := [0]) rfl rfl rfl (by simp only [List.length_append, List.length_cons, List.length_nil, H.l, List.length_replicate, length_putB]; omega)) rfl rfl rfl ?_
  refine J.callv rfl rfl rfl rfl Tb.cl111 rfl (rsum_spec _ (by simp; omega)) ?_
  refine J.storeW 0 rfl rfl rfl rfl rfl rfl rfl Tb.sz30 (hcl _) (hcl _) (hc1 _) ?_
  refine J.nil ?_
  refine JQ.next hK2 ?_
  refine JC.ret ?_
  exact ret1 rfl (r_cellA 0 rfl rfl Tb.ag30 (by rw [hcl]; exact Tb.sz30)) fun w hs => Post.pure hs
theorem rnode_spec (a b : H) : PureFn Tryd.prog Gl 139 [hv a, hv b] F (hv (node a b)) := by
  refine FnSpec.intro Tryd.func139 rfl Tryd.ntmps139 rfl fun X M w => ?_
  refine JC.seq fun K1 hK1 => ?_
  refine JC.region ?_
  refine J.box rfl rfl rfl rfl rfl rfl fun g2 => ?_
  refine J.box rfl rfl rfl rfl rfl rfl fun g3 => ?_
  refine J.alloc rfl rfl rfl rfl Tb.zz30 rfl fun g4 => ?_
  refine J.nil ?_
  refine JQ.next hK1 ?_
  refine JC.seq fun K2 hK2 => ?_
  refine JC.draw (by kernel_rfl) ?_
  refine D.take 0 (y_lbW 2 rfl Tb.ag30 Tb.sz30 (hcl _) rfl rfl) rfl rfl rfl rfl (by kernel_rfl) (by kernel_rfl) (by kernel_rfl) (PQ.next PQ.body) ?_
  refine D.take 3 (y_lbW 1 rfl Tb.ag30 Tb.sz30 (hcl _) rfl rfl) rfl rfl rfl rfl (by kernel_rfl) (by kernel_rfl) (by kernel_rfl) (PQ.next PQ.body) ?_
  refine D.callv 1 (by kernel_rfl) rfl rfl rfl rfl rfl Tb.cl175 rfl (rhash_spec a) ?_
  refine D.take 2 (y_sadd (a := [1]) rfl rfl rfl (by simp only [List.length_append, List.length_cons, List.length_nil, H.l, List.length_replicate, length_putB]; omega)) rfl rfl rfl rfl (by kernel_rfl) (by kernel_rfl) (by kernel_rfl) (PQ.next PQ.body) ?_
  refine D.callv 4 (by kernel_rfl) rfl rfl rfl rfl rfl Tb.cl175 rfl (rhash_spec b) ?_
  refine D.take 5 (y_sadd rfl rfl rfl (by simp only [List.length_append, List.length_cons, List.length_nil, H.l, List.length_replicate, length_putB]; omega)) rfl rfl rfl rfl (by kernel_rfl) (by kernel_rfl) (by kernel_rfl) (PQ.next PQ.body) ?_
  refine D.callv 6 (by kernel_rfl) rfl rfl rfl rfl rfl Tb.cl111 rfl (rsum_spec _ (by simp [a.l, b.l])) ?_
  refine D.storeW 7 0 (by kernel_rfl) rfl (by kernel_rfl) (by kernel_rfl) rfl rfl rfl rfl rfl rfl rfl Tb.sz30  (hcl _) (hcl _) (hc1 _) ?_
  refine JQ.next hK2 ?_
  refine JC.ret ?_
  exact ret1 rfl (r_cellA 0 rfl rfl Tb.ag30 (by rw [hcl]; exact Tb.sz30)) fun w hs => Post.pure hs
theorem split_fn (n : Nat) (a : Int) (ha : a = n) (hn : n ≤ 1000000000000) : PureFn Tryd.prog Gl 107 [.int .i64 a] F (.int .i64 (split n : Int)) := by
  subst ha
  refine FnSpec.intro Tryd.func107 rfl Tryd.ntmps107 rfl fun X M w => ?_
  refine JC.seq fun K1 hK1 => ?_
  refine JC.region ?_
  refine J.yl (y_assign rfl rfl) rfl rfl rfl ?_
  refine J.nil ?_
  refine JQ.next hK1 ?_
  refine JC.seq fun K2 hK2 => ?_
  refine JC.seq fun K3 hK3 => ?_
  refine JC.region ?_
  refine J.yl (y_move rfl rfl) rfl rfl rfl ?_
  refine J.yl (y_lt rfl rfl rfl) rfl rfl rfl ?_
  refine J.nil ?_
  refine JQ.next hK3 ?_
  refine JC.condp rfl (fun h1 => ?_) (fun h1 => ?_)
  · refine JC.seq fun K4 hK4 => ?_
    refine JC.region ?_
    refine J.yl (y_assign rfl rfl) rfl rfl rfl ?_
    refine J.nil ?_
    refine JQ.next hK4 ?_
    refine JC.ret ?_
    refine JQ.then_ret ?_
    exact ret1 rfl (r_tmp rfl) fun w hs => by rw [split_small (by omega)]; exact Post.pure hs
  · refine JC.skip ?_
    refine JQ.next hK2 ?_
    refine JC.seq fun K5 hK5 => ?_
    refine JC.region ?_
    refine J.yl (y_assign rfl rfl) rfl rfl rfl ?_
    refine J.nil ?_
    refine JQ.next hK5 ?_
    refine JC.seq fun K6 hK6 => ?_
    refine JC.block ?_
    refine JC.loopE (σ := Nat) (M := fun k => [(3, .int .i64 (k : Int))]) (kp := [(0, _)]) (hkp := (okE_cons rfl okE_nil)) (Dc := fun _ => []) (H := fun _ => F) (Ψ := fun k => 0 < k ∧ k < n ∧ ∃ j, k = 2 ^ j) (μ := fun k => n - k) 1 ⟨by omega, by omega, 0, rfl⟩ (okE_cons rfl okE_nil) (fun w h => h) (fun k ⟨h0, h2, j, hj⟩ K7 againK7 => ?_)
    refine JC.seq fun K8 hK8 => ?_
    refine JC.seq fun K9 hK9 => ?_
    refine JC.region ?_
    refine J.yl (y_move rfl rfl) rfl rfl rfl ?_
    refine J.yl (y_move rfl rfl) rfl rfl rfl ?_
    refine J.yl (y_move rfl rfl) rfl rfl rfl ?_
    refine J.yl (y_sub64 rfl rfl rfl (by omega)) rfl rfl rfl ?_
    refine J.yl (y_lt rfl rfl rfl) rfl rfl rfl ?_
    refine J.nil ?_
    refine JQ.next hK9 ?_
    refine JC.condp rfl (fun h3 => ?_) (fun h3 => ?_)
    · refine JC.skip ?_
      refine JQ.next hK8 ?_
      refine JC.block ?_
      refine JC.region ?_
      refine J.yl (y_move rfl rfl) rfl rfl rfl ?_
      refine J.yl (y_mul64 rfl rfl rfl (by omega)) rfl rfl rfl ?_
      refine J.yl (y_assign rfl rfl) rfl rfl rfl ?_
      refine J.nil ?_
      refine JQ.block_normal ?_
      refine againK7 (k * 2) _ ⟨by omega, by omega, j + 1, by rw [hj, Nat.pow_succ]⟩ (by omega) (okE_cons (slotI (by omega)) okE_nil) (okE_cons rfl okE_nil)
    · refine JC.exit ?_
      refine JQ.then_exit (JQ.then_exit (JQ.block_hit (JQ.next hK6 ?_)))
      refine JC.seq fun K10 hK10 => ?_
      refine JC.region ?_
      refine J.yl (y_move rfl rfl) rfl rfl rfl ?_
      refine J.yl (y_assign rfl rfl) rfl rfl rfl ?_
      refine J.nil ?_
      refine JQ.next hK10 ?_
      refine JC.ret ?_
      exact ret1 rfl (r_tmp rfl) fun w hs => by rw [← split_uniq ⟨j, hj⟩ h2 (by omega)]; exact Post.pure hs
theorem rsplit_fn (n : Nat) (a : Int) (ha : a = n) (hn : n ≤ 1000000000000) : PureFn Tryd.prog Gl 145 [.int .i64 a] F (.int .i64 (split n : Int)) := by
  subst ha
  refine FnSpec.intro Tryd.func145 rfl Tryd.ntmps145 rfl fun X M w => ?_
  refine JC.seq fun K1 hK1 => ?_
  refine JC.region ?_
  refine J.yl (y_assign rfl rfl) rfl rfl rfl ?_
  refine J.nil ?_
  refine JQ.next hK1 ?_
  refine JC.seq fun K2 hK2 => ?_
  refine JC.region ?_
  refine J.yl (y_assign rfl rfl) rfl rfl rfl ?_
  refine J.nil ?_
  refine JQ.next hK2 ?_
  refine JC.seq fun K3 hK3 => ?_
  refine JC.seq fun K4 hK4 => ?_
  refine JC.region ?_
  refine J.yl (y_assign rfl rfl) rfl rfl rfl ?_
  refine J.nil ?_
  refine JQ.next hK4 ?_
  refine JC.block ?_
  refine JC.loopE (σ := Nat × Nat) (M := fun q => [(4, .int .i64 (q.1 : Int)), (3, .int .i64 (q.2 : Int))]) (kp := [(0, _)]) (hkp := (okE_cons rfl okE_nil)) (Dc := fun _ => []) (H := fun _ => F) (Ψ := fun q => 0 < q.1 ∧ (q.1 = 1 ∧ q.2 = 0 ∨ q.1 = 2 * q.2 ∧ q.2 < n ∧ ∃ j, q.2 = 2 ^ j) ∧ ∃ j, q.1 = 2 ^ j) (μ := fun q => n - q.1) (1, 0) ⟨Nat.one_pos, .inl ⟨rfl, rfl⟩, 0, rfl⟩ (okE_cons rfl (okE_cons rfl okE_nil)) (fun w h => h) (fun sK5 hK5 K5 againK5 => ?_)
  obtain ⟨m, k⟩ := sK5
  dsimp only at hK5 againK5 ⊢
  obtain ⟨h0, h1, j, hj⟩ := hK5
  refine JC.seq fun K6 hK6 => ?_
  refine JC.seq fun K7 hK7 => ?_
  refine JC.region ?_
  refine J.yl (y_move rfl rfl) rfl rfl rfl ?_
  refine J.yl (y_move rfl rfl) rfl rfl rfl ?_
  refine J.ylp (y_lt rfl rfl rfl) rfl rfl rfl (fun h3 => ?_) (fun h3 => ?_)
  · refine J.yl (y_move rfl rfl) rfl rfl rfl ?_
    refine J.gyes (y_move rfl rfl) rfl rfl rfl rfl rfl rfl ?_
    refine J.gyes (y_gt rfl rfl rfl) rfl rfl rfl rfl rfl rfl ?_
    refine J.yl (y_pick rfl rfl (fun _ => rfl) (fun h => by cases h)) rfl rfl rfl ?_
    refine J.nil ?_
    refine JQ.next hK7 ?_
    refine JC.condp rfl (fun h4 => ?_) (fun h4 => ?_)
    · refine JC.skip ?_
      refine JQ.next hK6 ?_
      refine JC.seq fun K8 hK8 => ?_
      refine JC.block ?_
      refine JC.region ?_
      refine J.yl (y_move rfl rfl) rfl rfl rfl ?_
      refine J.yl (y_assign rfl rfl) rfl rfl rfl ?_
      refine J.nil ?_
      refine JQ.block_normal (JQ.next hK8 ?_)
      refine JC.region ?_
      refine J.yl (y_move rfl rfl) rfl rfl rfl ?_
      refine J.yl (y_mul64 rfl rfl rfl (by omega)) rfl rfl rfl ?_
      refine J.yl (y_assign rfl rfl) rfl rfl rfl ?_
      refine J.nil ?_
      refine againK5 (m * 2, m) _ ⟨by dsimp only; omega, .inr ⟨by dsimp only; omega, by dsimp only; omega, j, hj⟩, j + 1, by dsimp only; rw [hj, Nat.pow_succ]⟩ (by dsimp only; omega) (okE_cons (slotI (by dsimp only; omega)) (okE_cons rfl okE_nil)) (okE_cons rfl okE_nil)
    · omega
  · have hk : k = split n := by
      rcases h1 with ⟨h5, h6⟩ | ⟨h5, h6, h7⟩
      · rw [split_small (by omega), h6]
      · exact split_uniq h7 h6 (by omega)
    refine J.yl (y_move rfl rfl) rfl rfl rfl ?_
    refine J.gno (b := false) rfl rfl rfl rfl rfl rfl ?_
    refine J.gno (b := false) rfl rfl rfl rfl rfl rfl ?_
    refine J.yl (y_pick rfl rfl (fun h => by cases h) (fun _ => rfl)) rfl rfl rfl ?_
    refine J.nil ?_
    refine JQ.next hK7 ?_
    refine JC.no rfl ?_
    refine JC.exit ?_
    refine JQ.then_exit (JQ.then_exit (JQ.block_hit (JQ.next hK3 ?_)))
    refine JC.seq fun K9 hK9 => ?_
    refine JC.region ?_
    refine J.yl (y_move rfl rfl) rfl rfl rfl ?_
    refine J.yl (y_assign rfl rfl) rfl rfl rfl ?_
    refine J.nil ?_
    refine JQ.next hK9 ?_
    refine JC.ret ?_
    exact ret1 rfl (r_tmp rfl) fun w hs => by rw [← hk]; exact Post.pure hs
theorem rroot_spec : ∀ (m : Nat) (l : List H) (A : Option Addr) (n k : Nat), l.length ≤ m → l.length = n → n ≤ k → m ≤ 1000000 → ∀ F : World → Prop, (∀ w, F w → Sl w A (hcs l)) → PureFn Tryd.prog Gl 86 [.slice A n k] F (hv (root l)) := by
  intro m
  induction m with
  | zero =>
    intro l A n k hm hn hk hM F hA
    refine FnSpec.intro Tryd.func86 rfl Tryd.ntmps86 rfl fun X M w => ?_
    refine JC.seq fun K1 hK1 => ?_
    refine JC.region ?_
    refine J.alloc rfl rfl rfl rfl Tb.zz30 rfl fun g2 => ?_
    refine J.nil ?_
    refine JQ.next hK1 ?_
    refine JC.seq fun K2 hK2 => ?_
    refine JC.seq fun K3 hK3 => ?_
    refine JC.region ?_
    refine J.yl (y_move rfl rfl) rfl rfl rfl ?_
    refine J.yl (y_len rfl Tryd.underlying22 rfl) rfl rfl rfl ?_
    refine J.yl (y_eq rfl rfl rfl) rfl rfl rfl ?_
    refine J.nil ?_
    refine JQ.next hK3 ?_
    refine JC.condp rfl (fun h1 => ?_) (fun h1 => ?_)
    · refine JC.seq fun K4 hK4 => ?_
      refine JC.region ?_
      refine J.callv rfl rfl rfl rfl Tb.cl111 rfl (rsum_spec [] (by simp)) ?_
      refine J.storeW 0 rfl rfl rfl rfl rfl rfl rfl Tb.sz30 (hcl _) (hcl _) (hc1 _) ?_
      refine J.nil ?_
      refine JQ.next hK4 ?_
      refine JC.ret ?_
      refine JQ.then_ret ?_
      obtain rfl : l = [] := List.eq_nil_of_length_eq_zero (by omega)
      exact ret1 rfl (r_cellA 0 rfl rfl Tb.ag30 (by rw [hcl]; exact Tb.sz30)) fun w hs => Post.pure hs
    · omega
  | succ m ih =>
    intro l A n k hm hn hk hM F hA
    refine FnSpec.intro Tryd.func86 rfl Tryd.ntmps86 rfl fun X M w => ?_
    refine JC.seq fun K1 hK1 => ?_
    refine JC.region ?_
    refine J.alloc rfl rfl rfl rfl Tb.zz30 rfl fun g2 => ?_
    refine J.nil ?_
    refine JQ.next hK1 ?_
    refine JC.seq fun K2 hK2 => ?_
    refine JC.seq fun K3 hK3 => ?_
    refine JC.region ?_
    refine J.yl (y_move rfl rfl) rfl rfl rfl ?_
    refine J.yl (y_len rfl Tryd.underlying22 rfl) rfl rfl rfl ?_
    refine J.yl (y_eq rfl rfl rfl) rfl rfl rfl ?_
    refine J.nil ?_
    refine JQ.next hK3 ?_
    refine JC.condp rfl (fun h1 => ?_) (fun h1 => ?_)
    · refine JC.seq fun K4 hK4 => ?_
      refine JC.region ?_
      refine J.callv rfl rfl rfl rfl Tb.cl111 rfl (rsum_spec [] (by simp)) ?_
      refine J.storeW 0 rfl rfl rfl rfl rfl rfl rfl Tb.sz30 (hcl _) (hcl _) (hc1 _) ?_
      refine J.nil ?_
      refine JQ.next hK4 ?_
      refine JC.ret ?_
      refine JQ.then_ret ?_
      obtain rfl : l = [] := List.eq_nil_of_length_eq_zero (by omega)
      exact ret1 rfl (r_cellA 0 rfl rfl Tb.ag30 (by rw [hcl]; exact Tb.sz30)) fun w hs => Post.pure hs
    · refine JC.skip ?_
      refine JQ.next hK2 ?_
      refine JC.seq fun K5 hK5 => ?_
      refine JC.seq fun K6 hK6 => ?_
      refine JC.region ?_
      refine J.yl (y_move rfl rfl) rfl rfl rfl ?_
      refine J.yl (y_len rfl Tryd.underlying22 rfl) rfl rfl rfl ?_
      refine J.yl (y_eq rfl rfl rfl) rfl rfl rfl ?_
      refine J.nil ?_
      refine JQ.next hK6 ?_
      refine JC.condp rfl (fun h2 => ?_) (fun h2 => ?_)
      · obtain ⟨x, rfl⟩ : ∃ x, l = [x] := by
          match l, hn with
          | [x], _ => exact ⟨x, rfl⟩
          | [], hn => simp at hn; omega
          | x :: y :: r, hn => simp at hn; omega
        refine JC.seq fun K7 hK7 => ?_
        refine JC.region ?_
        refine J.yl (y_move rfl rfl) rfl rfl rfl ?_
        refine J.yl (y_hidx 0 rfl Tryd.underlying22 Tb.sz30 rfl rfl rfl hn (by omega) (fun w hs => hA w hs.fact)) rfl rfl rfl ?_
        refine J.yl (y_hld x rfl Tb.ag30 Tb.sz30 rfl rfl (fun w hs => hA w hs.fact)) rfl rfl rfl ?_
        refine J.storeW 0 rfl rfl rfl rfl rfl rfl rfl Tb.sz30 (hcl _) (hcl _) (hc1 _) ?_
        refine J.nil ?_
        refine JQ.next hK7 ?_
        refine JC.ret ?_
        refine JQ.then_ret ?_
        exact ret1 rfl (r_cellA 0 rfl rfl Tb.ag30 (by rw [hcl]; exact Tb.sz30)) fun w hs => Post.pure hs
      · have h2l : 2 ≤ l.length := by omega
        have hs := split_spec h2l
        subst hn
        refine JC.skip ?_
        refine JQ.next hK5 ?_
        refine JC.seq fun K8 hK8 => ?_
        refine JC.region ?_
        refine J.yl (y_move rfl rfl) rfl rfl rfl ?_
        refine J.yl (y_len rfl Tryd.underlying22 rfl) rfl rfl rfl ?_
        refine J.callv rfl rfl rfl rfl Tb.cl145 rfl (rsplit_fn l.length _ rfl (by omega)) ?_
        refine J.yl (y_assign rfl rfl) rfl rfl rfl ?_
        refine J.nil ?_
        refine JQ.next hK8 ?_
        refine JC.seq fun K9 hK9 => ?_
        refine JC.draw (by kernel_rfl) ?_
        refine D.take 0 (y_move rfl rfl) rfl rfl rfl rfl (by kernel_rfl) (by kernel_rfl) (by kernel_rfl) (PQ.next PQ.body) ?_
        refine D.take 1 (y_move rfl rfl) rfl rfl rfl rfl (by kernel_rfl) (by kernel_rfl) (by kernel_rfl) (PQ.next PQ.body) ?_
        refine D.take 4 (y_move rfl rfl) rfl rfl rfl rfl (by kernel_rfl) (by kernel_rfl) (by kernel_rfl) (PQ.next PQ.body) ?_
        refine D.take 5 (y_move rfl rfl) rfl rfl rfl rfl (by kernel_rfl) (by kernel_rfl) (by kernel_rfl) (PQ.next PQ.body) ?_
        refine D.take 2 (y_cuttoN (split l.length) rfl Tryd.underlying22 Tb.sz30 rfl rfl rfl (by omega)) rfl rfl rfl rfl (by kernel_rfl) (by kernel_rfl) (by kernel_rfl) (PQ.next PQ.body) ?_
        refine D.take 6 (y_cutfromN (split l.length) rfl Tryd.underlying22 Tb.sz30 rfl rfl rfl (by omega)) rfl rfl rfl rfl (by kernel_rfl) (by kernel_rfl) (by kernel_rfl) (PQ.next PQ.body) ?_
        refine D.callv 3 (by kernel_rfl) rfl rfl rfl rfl rfl Tb.cl86 rfl (ih (l.take (split l.length)) A _ _ (by rw [List.length_take]; omega) (by rw [List.length_take]; omega) (by omega) (by omega) _ (fun w h => (hA w h.1).htake _)) ?_
        refine D.callv 7 (by kernel_rfl) rfl rfl rfl rfl rfl Tb.cl86 rfl (ih (l.drop (split l.length)) _ _ _ (by rw [List.length_drop]; omega) (by rw [List.length_drop]) (by omega) (by omega) _ (fun w h => (hA w h.1).hdrop _ _ hk (by omega))) ?_
        refine D.callv 8 (by kernel_rfl) rfl rfl rfl rfl rfl Tb.cl139 rfl (rnode_spec _ _) ?_
        refine D.storeW 9 0 (by kernel_rfl) rfl (by kernel_rfl) (by kernel_rfl) rfl rfl rfl rfl rfl rfl rfl Tb.sz30  (hcl _) (hcl _) (hc1 _) ?_
        refine JQ.next hK9 ?_
        refine JC.ret ?_
        exact ret1 rfl (r_cellA 0 rfl rfl Tb.ag30 (by rw [hcl]; exact Tb.sz30)) fun w hs => by rw [root_two l h2l]; exact Post.pure hs
end Go.Proofs.YtjkfeonbioccmaaDoor
