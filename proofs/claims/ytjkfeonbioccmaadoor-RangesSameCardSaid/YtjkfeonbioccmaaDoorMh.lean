/- Speculum proofs: contracts of the lowest functions: hashes' texts, trees. -/
/- Speculum proofs: contracts: roots, lists of leaves, equal lists. -/
/- Speculum proofs: contracts: the proof that one tree is another one's beginning. -/
/- Speculum proofs: contracts: the program's proofs. -/
import Derived.Test.YtjkfeonbioccmaaDoorMc
import Derived.Test.YtjkfeonbioccmaaDoorMd
namespace Go.Proofs.YtjkfeonbioccmaaDoor
open Go Go.Sx Go.RowKit
set_option linter.unusedVariables false
set_option linter.unusedSimpArgs false
set_option maxRecDepth 100000
set_option maxHeartbeats 400000
variable {Gl F : World → Prop}
def Gs (w : World) : Prop := glS 0 1 w

theorem hash_spec (h : H) : PureFn Tryd.prog Gl 160 [hv h] F (str h.b) := by
  refine FnSpec.intro Tryd.func160 rfl Tryd.ntmps160 rfl fun X M w => ?_
  refine JC.seq fun K1 hK1 => ?_
  refine JC.region ?_
  refine J.box rfl rfl rfl rfl rfl rfl fun g1 => ?_
  refine J.yl (y_assign rfl rfl) rfl rfl rfl ?_
  refine J.nil ?_
  refine JQ.next hK1 ?_
  refine JC.seq fun K2 hK2 => ?_
  refine JC.region ?_
  refine J.yl (y_cutarr rfl Tryd.underlying30 (by rw [Tb.sz5]; rfl) (by decide) rfl) rfl rfl rfl ?_
  refine J.yl (y_b2s (bs := h.b) rfl Tryd.underlying205 Tryd.underlying5 Tryd.underlying9 (by rw [h.l]; rfl) (fun w hs => .inr ⟨rfl, by exact At.box (hs.get (i := 0) rfl)⟩)) rfl rfl rfl ?_
  refine J.yl (y_assign rfl rfl) rfl rfl rfl ?_
  refine J.nil ?_
  refine JQ.next hK2 ?_
  refine JC.ret ?_
  exact ret1 rfl (r_tmp rfl) fun w hs => Post.pure hs
theorem leaf_spec (s : List UInt8) (hl : s.length ≤ 100000) : PureFn Tryd.prog Gs 48 [str s] F (hv (leaf s)) := by
  refine FnSpec.intro Tryd.func48 rfl Tryd.ntmps48 rfl fun X M w => ?_
  refine JC.seq fun K1 hK1 => ?_
  refine JC.region ?_
  refine J.alloc rfl rfl rfl rfl Tb.zz30 rfl fun g2 => ?_
  refine J.nil ?_
  refine JQ.next hK1 ?_
  refine JC.seq fun K2 hK2 => ?_
  refine JC.region ?_
  refine J.yl (y_move rfl rfl) rfl rfl rfl ?_
  refine J.yl (y_sadd (a := [0]) rfl rfl rfl (by simp only [List.length_append, List.length_cons, List.length_nil, H.l, List.length_replicate, length_putB]; omega)) rfl rfl rfl ?_
  refine J.callv rfl rfl rfl rfl Tb.cl113 rfl (sum_spec (fun _ h => h) _ (by simp; omega)) ?_
  refine J.storeW 0 rfl rfl rfl rfl rfl rfl rfl Tb.sz30 (hcl _) (hcl _) (hc1 _) ?_
  refine J.nil ?_
  refine JQ.next hK2 ?_
  refine JC.ret ?_
  exact ret1 rfl (r_cellA 0 rfl rfl Tb.ag30 (by rw [hcl]; exact Tb.sz30)) fun w hs => Post.pure hs
theorem node_spec (a b : H) : PureFn Tryd.prog Gs 105 [hv a, hv b] F (hv (node a b)) := by
  refine FnSpec.intro Tryd.func105 rfl Tryd.ntmps105 rfl fun X M w => ?_
  refine JC.seq fun K1 hK1 => ?_
  refine JC.region ?_
  refine J.box rfl rfl rfl rfl rfl rfl fun g2 => ?_
  refine J.box rfl rfl rfl rfl rfl rfl fun g3 => ?_
  refine J.alloc rfl rfl rfl rfl Tb.zz30 rfl fun g4 => ?_
  refine J.nil ?_
  refine JQ.next hK1 ?_
  refine JC.seq fun K2 hK2 => ?_
  refine JC.draw (by kernel_rfl) ?_
  refine D.take 0 (y_lbW 2 rfl Tb.ag30 Tb.sz30 (hcl _) rfl rfl) rfl rfl rfl rfl (by kernel_rfl) (by kernel_rfl) (by kernel_rfl) (PQ.next PQ.body) ?_
  refine D.take 3 (y_lbW 1 rfl Tb.ag30 Tb.sz30 (hcl _) rfl rfl) rfl rfl rfl rfl (by kernel_rfl) (by kernel_rfl) (by kernel_rfl) (PQ.next PQ.body) ?_
  refine D.callv 1 (by kernel_rfl) rfl rfl rfl rfl rfl Tb.cl160 rfl (hash_spec a) ?_
  refine D.take 2 (y_sadd (a := [1]) rfl rfl rfl (by simp only [List.length_append, List.length_cons, List.length_nil, H.l, List.length_replicate, length_putB]; omega)) rfl rfl rfl rfl (by kernel_rfl) (by kernel_rfl) (by kernel_rfl) (PQ.next PQ.body) ?_
  refine D.callv 4 (by kernel_rfl) rfl rfl rfl rfl rfl Tb.cl160 rfl (hash_spec b) ?_
  refine D.take 5 (y_sadd rfl rfl rfl (by simp only [List.length_append, List.length_cons, List.length_nil, H.l, List.length_replicate, length_putB]; omega)) rfl rfl rfl rfl (by kernel_rfl) (by kernel_rfl) (by kernel_rfl) (PQ.next PQ.body) ?_
  refine D.callv 6 (by kernel_rfl) rfl rfl rfl rfl rfl Tb.cl113 rfl (sum_spec (fun _ h => h) _ (by simp [a.l, b.l])) ?_
  refine D.storeW 7 0 (by kernel_rfl) rfl (by kernel_rfl) (by kernel_rfl) rfl rfl rfl rfl rfl rfl rfl Tb.sz30  (hcl _) (hcl _) (hc1 _) ?_
  refine JQ.next hK2 ?_
  refine JC.ret ?_
  exact ret1 rfl (r_cellA 0 rfl rfl Tb.ag30 (by rw [hcl]; exact Tb.sz30)) fun w hs => Post.pure hs
theorem rhash_spec (h : H) : PureFn Tryd.prog Gl 175 [hv h] F (str h.b) := by
  have hl := h.l
  refine FnSpec.intro Tryd.func175 rfl Tryd.ntmps175 rfl fun X M w => ?_
  refine JC.seq fun K1 hK1 => ?_
  refine JC.region ?_
  refine J.box rfl rfl rfl rfl rfl rfl fun g1 => ?_
  refine J.yl (y_assign rfl rfl) rfl rfl rfl ?_
  refine J.nil ?_
  refine JQ.next hK1 ?_
  refine JC.seq fun K2 hK2 => ?_
  refine JC.region ?_
  refine J.yl (y_assign rfl rfl) rfl rfl rfl ?_
  refine J.nil ?_
  refine JQ.next hK2 ?_
  refine JC.seq fun K3 hK3 => ?_
  refine JC.seq fun K4 hK4 => ?_
  refine JC.region ?_
  refine J.yl (y_assign rfl rfl) rfl rfl rfl ?_
  refine J.nil ?_
  refine JQ.next hK4 ?_
  refine JC.block ?_
  refine JC.st ?_ (fun w hs => hs.nilrow 5 1)
  refine JC.loopE (σ := Nat × Option Addr × Nat) (M := fun q => [(4, .int .i64 (q.1 : Int)), (3, .slice q.2.1 q.1 q.2.2)]) (kp := [(1, _)]) (hkp := (okE_cons rfl okE_nil)) (Dc := fun q => [.row (.slice q.2.1 q.1 q.2.2) 5 1 q.1 ((h.b.take q.1).map u8), .box g1 30 (hc h)]) (H := fun _ => F) (Ψ := fun q => q.1 ≤ 32) (μ := fun q => 32 - q.1) (0, none, 0) (by dsimp only; omega) (okE_cons rfl (okE_cons rfl okE_nil)) (fun w h => h) (fun sK5 hK5 K5 againK5 => ?_)
  obtain ⟨i, A, k⟩ := sK5
  dsimp only at hK5 againK5 ⊢
  obtain hi := hK5
  refine JC.seq fun K6 hK6 => ?_
  refine JC.seq fun K7 hK7 => ?_
  refine JC.region ?_
  refine J.yl (y_move rfl rfl) rfl rfl rfl ?_
  refine J.yl (y_lt rfl rfl rfl) rfl rfl rfl ?_
  refine J.nil ?_
  refine JQ.next hK7 ?_
  refine JC.condp rfl (fun h1 => ?_) (fun h1 => ?_)
  · refine JC.skip ?_
    refine JQ.next hK6 ?_
    refine JC.seq fun K8 hK8 => ?_
    refine JC.block ?_
    refine JC.region ?_
    refine J.yl (y_move rfl rfl) rfl rfl rfl ?_
    refine J.yl (y_move rfl rfl) rfl rfl rfl ?_
    refine J.yl (y_ib1 i rfl Tryd.underlying30 Tb.sz5 rfl rfl rfl (by omega)) rfl rfl rfl ?_
    refine J.yl (y_lb 1 rfl Tb.ag5 rfl rfl (bytes_get h.b (by omega))) rfl rfl rfl ?_
    refine J.bs1 rfl rfl rfl rfl rfl Tryd.underlying205 Tb.zz5 Tb.sz5 rfl (by decide) rfl rfl fun g13 => ?_
    refine J.append 1 rfl rfl rfl rfl rfl rfl Tryd.underlying205 Tb.zz5 Tb.sz5 Tb.by5 rfl (by decide) rfl rfl (fun w hs => .inr ⟨rfl, At.box (hs.get (i := 0) rfl)⟩) (one1 rfl) (by omega) (by decide) (rfl) (bytes_take h.b (by omega)) fun A k hAx hkx => ?_
    refine J.drop ?_
    refine J.yl (y_assign rfl rfl) rfl rfl rfl ?_
    refine J.nil ?_
    refine JQ.block_normal (JQ.next hK8 ?_)
    refine JC.region ?_
    refine J.yl (y_move rfl rfl) rfl rfl rfl ?_
    refine J.yl (y_add64 rfl rfl rfl (by omega)) rfl rfl rfl ?_
    refine J.yl (y_assign rfl rfl) rfl rfl rfl ?_
    refine J.nil ?_
    refine againK5 (i + 1, A, k) _ (by dsimp only; omega) (by dsimp only; omega) (okE_cons rfl (okE_cons rfl okE_nil)) (okE_cons rfl okE_nil)
  · obtain rfl : i = 32 := by omega
    refine JC.exit ?_
    refine JQ.then_exit (JQ.then_exit (JQ.block_hit (JQ.next hK3 ?_)))
    refine JC.seq fun K10 hK10 => ?_
    refine JC.region ?_
    refine J.yl (y_move rfl rfl) rfl rfl rfl ?_
    refine J.yl (y_b2sN (bs := h.b) rfl Tryd.underlying205 Tryd.underlying5 Tryd.underlying9 rfl hl (fun w hs => by have := Sl.of_row (hs.get (i := 0) rfl); rwa [List.take_of_length_le (by omega)] at this)) rfl rfl rfl ?_
    refine J.yl (y_assign rfl rfl) rfl rfl rfl ?_
    refine J.nil ?_
    refine JQ.next hK10 ?_
    refine JC.ret ?_
    exact ret1 rfl (r_tmp rfl) fun w hs => Post.pure hs
theorem rleaf_spec (s : List UInt8) (hl : s.length ≤ 100000) : PureFn Tryd.prog Gl 144 [str s] F (hv (leaf s)) := by
  refine FnSpec.intro Tryd.func144 rfl Tryd.ntmps144 rfl fun X M w => ?_
  refine JC.seq fun K1 hK1 => ?_
  refine JC.region ?_
  refine J.alloc rfl rfl rfl rfl Tb.zz30 rfl fun g2 => ?_
  refine J.nil ?_
  refine JQ.next hK1 ?_
  refine JC.seq fun K2 hK2 => ?_
  refine JC.region ?_
  refine J.yl (y_move rfl rfl) rfl rfl rfl ?_
  refine J.yl (y_sadd (a := [0]) rfl rfl rfl (by simp only [List.length_append, List.length_cons, List.length_nil, H.l, List.length_replicate, length_putB]; omega)) rfl rfl rfl ?_
  refine J.callv rfl rfl rfl rfl Tb.cl111 rfl (rsum_spec _ (by simp; omega)) ?_
  refine J.storeW 0 rfl rfl rfl rfl rfl rfl rfl Tb.sz30 (hcl _) (hcl _) (hc1 _) ?_
  refine J.nil ?_
  refine JQ.next hK2 ?_
  refine JC.ret ?_
  exact ret1 rfl (r_cellA 0 rfl rfl Tb.ag30 (by rw [hcl]; exact Tb.sz30)) fun w hs => Post.pure hs
theorem rnode_spec (a b : H) : PureFn Tryd.prog Gl 139 [hv a, hv b] F (hv (node a b)) := by
  refine FnSpec.intro Tryd.func139 rfl Tryd.ntmps139 rfl fun X M w => ?_
  refine JC.seq fun K1 hK1 => ?_
  refine JC.region ?_
  refine J.box rfl rfl rfl rfl rfl rfl fun g2 => ?_
  refine J.box rfl rfl rfl rfl rfl rfl fun g3 => ?_
  refine J.alloc rfl rfl rfl rfl Tb.zz30 rfl fun g4 => ?_
  refine J.nil ?_
  refine JQ.next hK1 ?_
  refine JC.seq fun K2 hK2 => ?_
  refine JC.draw (by kernel_rfl) ?_
  refine D.take 0 (y_lbW 2 rfl Tb.ag30 Tb.sz30 (hcl _) rfl rfl) rfl rfl rfl rfl (by kernel_rfl) (by kernel_rfl) (by kernel_rfl) (PQ.next PQ.body) ?_
  refine D.take 3 (y_lbW 1 rfl Tb.ag30 Tb.sz30 (hcl _) rfl rfl) rfl rfl rfl rfl (by kernel_rfl) (by kernel_rfl) (by kernel_rfl) (PQ.next PQ.body) ?_
  refine D.callv 1 (by kernel_rfl) rfl rfl rfl rfl rfl Tb.cl175 rfl (rhash_spec a) ?_
  refine D.take 2 (y_sadd (a := [1]) rfl rfl rfl (by simp only [List.length_append, List.length_cons, List.length_nil, H.l, List.length_replicate, length_putB]; omega)) rfl rfl rfl rfl (by kernel_rfl) (by kernel_rfl) (by kernel_rfl) (PQ.next PQ.body) ?_
  refine D.callv 4 (by kernel_rfl) rfl rfl rfl rfl rfl Tb.cl175 rfl (rhash_spec b) ?_
  refine D.take 5 (y_sadd rfl rfl rfl (by simp only [List.length_append, List.length_cons, List.length_nil, H.l, List.length_replicate, length_putB]; omega)) rfl rfl rfl rfl (by kernel_rfl) (by kernel_rfl) (by kernel_rfl) (PQ.next PQ.body) ?_
  refine D.callv 6 (by kernel_rfl) rfl rfl rfl rfl rfl Tb.cl111 rfl (rsum_spec _ (by simp [a.l, b.l])) ?_
  refine D.storeW 7 0 (by kernel_rfl) rfl (by kernel_rfl) (by kernel_rfl) rfl rfl rfl rfl rfl rfl rfl Tb.sz30  (hcl _) (hcl _) (hc1 _) ?_
  refine JQ.next hK2 ?_
  refine JC.ret ?_
  exact ret1 rfl (r_cellA 0 rfl rfl Tb.ag30 (by rw [hcl]; exact Tb.sz30)) fun w hs => Post.pure hs
theorem split_fn (n : Nat) (a : Int) (ha : a = n) (hn : n ≤ 1000000000000) : PureFn Tryd.prog Gl 107 [.int .i64 a] F (.int .i64 (split n : Int)) := by
  subst ha
  refine FnSpec.intro Tryd.func107 rfl Tryd.ntmps107 rfl fun X M w => ?_
  refine JC.seq fun K1 hK1 => ?_
  refine JC.region ?_
  refine J.yl (y_assign rfl rfl) rfl rfl rfl ?_
  refine J.nil ?_
  refine JQ.next hK1 ?_
  refine JC.seq fun K2 hK2 => ?_
  refine JC.seq fun K3 hK3 => ?_
  refine JC.region ?_
  refine J.yl (y_move rfl rfl) rfl rfl rfl ?_
  refine J.yl (y_lt rfl rfl rfl) rfl rfl rfl ?_
  refine J.nil ?_
  refine JQ.next hK3 ?_
  refine JC.condp rfl (fun h1 => ?_) (fun h1 => ?_)
  · refine JC.seq fun K4 hK4 => ?_
    refine JC.region ?_
    refine J.yl (y_assign rfl rfl) rfl rfl rfl ?_
    refine J.nil ?_
    refine JQ.next hK4 ?_
    refine JC.ret ?_
    refine JQ.then_ret ?_
    exact ret1 rfl (r_tmp rfl) fun w hs => by rw [split_small (by omega)]; exact Post.pure hs
  · refine JC.skip ?_
    refine JQ.next hK2 ?_
    refine JC.seq fun K5 hK5 => ?_
    refine JC.region ?_
    refine J.yl (y_assign rfl rfl) rfl rfl rfl ?_
    refine J.nil ?_
    refine JQ.next hK5 ?_
    refine JC.seq fun K6 hK6 => ?_
    refine JC.block ?_
    refine JC.loopE (σ := Nat) (M := fun k => [(3, .int .i64 (k : Int))]) (kp := [(0, _)]) (hkp := (okE_cons rfl okE_nil)) (Dc := fun _ => []) (H := fun _ => F) (Ψ := fun k => 0 < k ∧ k < n ∧ ∃ j, k = 2 ^ j) (μ := fun k => n - k) 1 ⟨by omega, by omega, 0, rfl⟩ (okE_cons rfl okE_nil) (fun w h => h) (fun k ⟨h0, h2, j, hj⟩ K7 againK7 => ?_)
    refine JC.seq fun K8 hK8 => ?_
    refine JC.seq fun K9 hK9 => ?_
    refine JC.region ?_
    refine J.yl (y_move rfl rfl) rfl rfl rfl ?_
    refine J.yl (y_move rfl rfl) rfl rfl rfl ?_
    refine J.yl (y_move rfl rfl) rfl rfl rfl ?_
    refine J.yl (y_sub64 rfl rfl rfl (by omega)) rfl rfl rfl ?_
    refine J.yl (y_lt rfl rfl rfl) rfl rfl rfl ?_
    refine J.nil ?_
    refine JQ.next hK9 ?_
    refine JC.condp rfl (fun h3 => ?_) (fun h3 => ?_)
    · refine JC.skip ?_
      refine JQ.next hK8 ?_
      refine JC.block ?_
      refine JC.region ?_
      refine J.yl (y_move rfl rfl) rfl rfl rfl ?_
      refine J.yl (y_mul64 rfl rfl rfl (by omega)) rfl rfl rfl ?_
      refine J.yl (y_assign rfl rfl) rfl rfl rfl ?_
      refine J.nil ?_
      refine JQ.block_normal ?_
      refine againK7 (k * 2) _ ⟨by omega, by omega, j + 1, by rw [hj, Nat.pow_succ]⟩ (by omega) (okE_cons (slotI (by omega)) okE_nil) (okE_cons rfl okE_nil)
    · refine JC.exit ?_
      refine JQ.then_exit (JQ.then_exit (JQ.block_hit (JQ.next hK6 ?_)))
      refine JC.seq fun K10 hK10 => ?_
      refine JC.region ?_
      refine J.yl (y_move rfl rfl) rfl rfl rfl ?_
      refine J.yl (y_assign rfl rfl) rfl rfl rfl ?_
      refine J.nil ?_
      refine JQ.next hK10 ?_
      refine JC.ret ?_
      exact ret1 rfl (r_tmp rfl) fun w hs => by rw [← split_uniq ⟨j, hj⟩ h2 (by omega)]; exact Post.pure hs
theorem rsplit_fn (n : Nat) (a : Int) (ha : a = n) (hn : n ≤ 1000000000000) : PureFn Tryd.prog Gl 145 [.int .i64 a] F (.int .i64 (split n : Int)) := by
  subst ha
  refine FnSpec.intro Tryd.func145 rfl Tryd.ntmps145 rfl fun X M w => ?_
  refine JC.seq fun K1 hK1 => ?_
  refine JC.region ?_
  refine J.yl (y_assign rfl rfl) rfl rfl rfl ?_
  refine J.nil ?_
  refine JQ.next hK1 ?_
  refine JC.seq fun K2 hK2 => ?_
  refine JC.region ?_
  refine J.yl (y_assign rfl rfl) rfl rfl rfl ?_
  refine J.nil ?_
  refine JQ.next hK2 ?_
  refine JC.seq fun K3 hK3 => ?_
  refine JC.seq fun K4 hK4 => ?_
  refine JC.region ?_
  refine J.yl (y_assign rfl rfl) rfl rfl rfl ?_
  refine J.nil ?_
  refine JQ.next hK4 ?_
  refine JC.block ?_
  refine JC.loopE (σ := Nat × Nat) (M := fun q => [(4, .int .i64 (q.1 : Int)), (3, .int .i64 (q.2 : Int))]) (kp := [(0, _)]) (hkp := (okE_cons rfl okE_nil)) (Dc := fun _ => []) (H := fun _ => F) (Ψ := fun q => 0 < q.1 ∧ (q.1 = 1 ∧ q.2 = 0 ∨ q.1 = 2 * q.2 ∧ q.2 < n ∧ ∃ j, q.2 = 2 ^ j) ∧ ∃ j, q.1 = 2 ^ j) (μ := fun q => n - q.1) (1, 0) ⟨Nat.one_pos, .inl ⟨rfl, rfl⟩, 0, rfl⟩ (okE_cons rfl (okE_cons rfl okE_nil)) (fun w h => h) (fun sK5 hK5 K5 againK5 => ?_)
  obtain ⟨m, k⟩ := sK5
  dsimp only at hK5 againK5 ⊢
  obtain ⟨h0, h1, j, hj⟩ := hK5
  refine JC.seq fun K6 hK6 => ?_
  refine JC.seq fun K7 hK7 => ?_
  refine JC.region ?_
  refine J.yl (y_move rfl rfl) rfl rfl rfl ?_
  refine J.yl (y_move rfl rfl) rfl rfl rfl ?_
  refine J.ylp (y_lt rfl rfl rfl) rfl rfl rfl (fun h3 => ?_) (fun h3 => ?_)
  · refine J.yl (y_move rfl rfl) rfl rfl rfl ?_
    refine J.gyes (y_move rfl rfl) rfl rfl rfl rfl rfl rfl ?_
    refine J.gyes (y_gt rfl rfl rfl) rfl rfl rfl rfl rfl rfl ?_
    refine J.yl (y_pick rfl rfl (fun _ => rfl) (fun h => by cases h)) rfl rfl rfl ?_
    refine J.nil ?_
    refine JQ.next hK7 ?_
    refine JC.condp rfl (fun h4 => ?_) (fun h4 => ?_)
    · refine JC.skip ?_
      refine JQ.next hK6 ?_
      refine JC.seq fun K8 hK8 => ?_
      refine JC.block ?_
      refine JC.region ?_
      refine J.yl (y_move rfl rfl) rfl rfl rfl ?_
      refine J.yl (y_assign rfl rfl) rfl rfl rfl ?_
      refine J.nil ?_
      refine JQ.block_normal (JQ.next hK8 ?_)
      refine JC.region ?_
      refine J.yl (y_move rfl rfl) rfl rfl rfl ?_
      refine J.yl (y_mul64 rfl rfl rfl (by omega)) rfl rfl rfl ?_
      refine J.yl (y_assign rfl rfl) rfl rfl rfl ?_
      refine J.nil ?_
      refine againK5 (m * 2, m) _ ⟨by dsimp only; omega, .inr ⟨by dsimp only; omega, by dsimp only; omega, j, hj⟩, j + 1, by dsimp only; rw [hj, Nat.pow_succ]⟩ (by dsimp only; omega) (okE_cons (slotI (by dsimp only; omega)) (okE_cons rfl okE_nil)) (okE_cons rfl okE_nil)
    · omega
  · have hk : k = split n := by
      rcases h1 with ⟨h5, h6⟩ | ⟨h5, h6, h7⟩
      · rw [split_small (by omega), h6]
      · exact split_uniq h7 h6 (by omega)
    refine J.yl (y_move rfl rfl) rfl rfl rfl ?_
    refine J.gno (b := false) rfl rfl rfl rfl rfl rfl ?_
    refine J.gno (b := false) rfl rfl rfl rfl rfl rfl ?_
    refine J.yl (y_pick rfl rfl (fun h => by cases h) (fun _ => rfl)) rfl rfl rfl ?_
    refine J.nil ?_
    refine JQ.next hK7 ?_
    refine JC.no rfl ?_
    refine JC.exit ?_
    refine JQ.then_exit (JQ.then_exit (JQ.block_hit (JQ.next hK3 ?_)))
    refine JC.seq fun K9 hK9 => ?_
    refine JC.region ?_
    refine J.yl (y_move rfl rfl) rfl rfl rfl ?_
    refine J.yl (y_assign rfl rfl) rfl rfl rfl ?_
    refine J.nil ?_
    refine JQ.next hK9 ?_
    refine JC.ret ?_
    exact ret1 rfl (r_tmp rfl) fun w hs => by rw [← hk]; exact Post.pure hs
theorem rroot_spec : ∀ (m : Nat) (l : List H) (A : Option Addr) (n k : Nat), l.length ≤ m → l.length = n → n ≤ k → m ≤ 1000000 → ∀ F : World → Prop, (∀ w, F w → Sl w A (hcs l)) → PureFn Tryd.prog Gl 86 [.slice A n k] F (hv (root l)) := by
  intro m
  induction m with
  | zero =>
    intro l A n k hm hn hk hM F hA
    refine FnSpec.intro Tryd.func86 rfl Tryd.ntmps86 rfl fun X M w => ?_
    refine JC.seq fun K1 hK1 => ?_
    refine JC.region ?_
    refine J.alloc rfl rfl rfl rfl Tb.zz30 rfl fun g2 => ?_
    refine J.nil ?_
    refine JQ.next hK1 ?_
    refine JC.seq fun K2 hK2 => ?_
    refine JC.seq fun K3 hK3 => ?_
    refine JC.region ?_
    refine J.yl (y_move rfl rfl) rfl rfl rfl ?_
    refine J.yl (y_len rfl Tryd.underlying22 rfl) rfl rfl rfl ?_
    refine J.yl (y_eq rfl rfl rfl) rfl rfl rfl ?_
    refine J.nil ?_
    refine JQ.next hK3 ?_
    refine JC.condp rfl (fun h1 => ?_) (fun h1 => ?_)
    · refine JC.seq fun K4 hK4 => ?_
      refine JC.region ?_
      refine J.callv rfl rfl rfl rfl Tb.cl111 rfl (rsum_spec [] (by simp)) ?_
      refine J.storeW 0 rfl rfl rfl rfl rfl rfl rfl Tb.sz30 (hcl _) (hcl _) (hc1 _) ?_
      refine J.nil ?_
      refine JQ.next hK4 ?_
      refine JC.ret ?_
      refine JQ.then_ret ?_
      obtain rfl : l = [] := List.eq_nil_of_length_eq_zero (by omega)
      exact ret1 rfl (r_cellA 0 rfl rfl Tb.ag30 (by rw [hcl]; exact Tb.sz30)) fun w hs => Post.pure hs
    · omega
  | succ m ih =>
    intro l A n k hm hn hk hM F hA
    refine FnSpec.intro Tryd.func86 rfl Tryd.ntmps86 rfl fun X M w => ?_
    refine JC.seq fun K1 hK1 => ?_
    refine JC.region ?_
    refine J.alloc rfl rfl rfl rfl Tb.zz30 rfl fun g2 => ?_
    refine J.nil ?_
    refine JQ.next hK1 ?_
    refine JC.seq fun K2 hK2 => ?_
    refine JC.seq fun K3 hK3 => ?_
    refine JC.region ?_
    refine J.yl (y_move rfl rfl) rfl rfl rfl ?_
    refine J.yl (y_len rfl Tryd.underlying22 rfl) rfl rfl rfl ?_
    refine J.yl (y_eq rfl rfl rfl) rfl rfl rfl ?_
    refine J.nil ?_
    refine JQ.next hK3 ?_
    refine JC.condp rfl (fun h1 => ?_) (fun h1 => ?_)
    · refine JC.seq fun K4 hK4 => ?_
      refine JC.region ?_
      refine J.callv rfl rfl rfl rfl Tb.cl111 rfl (rsum_spec [] (by simp)) ?_
      refine J.storeW 0 rfl rfl rfl rfl rfl rfl rfl Tb.sz30 (hcl _) (hcl _) (hc1 _) ?_
      refine J.nil ?_
      refine JQ.next hK4 ?_
      refine JC.ret ?_
      refine JQ.then_ret ?_
      obtain rfl : l = [] := List.eq_nil_of_length_eq_zero (by omega)
      exact ret1 rfl (r_cellA 0 rfl rfl Tb.ag30 (by rw [hcl]; exact Tb.sz30)) fun w hs => Post.pure hs
    · refine JC.skip ?_
      refine JQ.next hK2 ?_
      refine JC.seq fun K5 hK5 => ?_
      refine JC.seq fun K6 hK6 => ?_
      refine JC.region ?_
      refine J.yl (y_move rfl rfl) rfl rfl rfl ?_
      refine J.yl (y_len rfl Tryd.underlying22 rfl) rfl rfl rfl ?_
      refine J.yl (y_eq rfl rfl rfl) rfl rfl rfl ?_
      refine J.nil ?_
      refine JQ.next hK6 ?_
      refine JC.condp rfl (fun h2 => ?_) (fun h2 => ?_)
      · obtain ⟨x, rfl⟩ : ∃ x, l = [x] := by
          match l, hn with
          | [x], _ => exact ⟨x, rfl⟩
          | [], hn => simp at hn; omega
          | x :: y :: r, hn => simp at hn; omega
        refine JC.seq fun K7 hK7 => ?_
        refine JC.region ?_
        refine J.yl (y_move rfl rfl) rfl rfl rfl ?_
        refine J.yl (y_hidx 0 rfl Tryd.underlying22 Tb.sz30 rfl rfl rfl hn (by omega) (fun w hs => hA w hs.fact)) rfl rfl rfl ?_
        refine J.yl (y_hld x rfl Tb.ag30 Tb.sz30 rfl rfl (fun w hs => hA w hs.fact)) rfl rfl rfl ?_
        refine J.storeW 0 rfl rfl rfl rfl rfl rfl rfl Tb.sz30 (hcl _) (hcl _) (hc1 _) ?_
        refine J.nil ?_
        refine JQ.next hK7 ?_
        refine JC.ret ?_
        refine JQ.then_ret ?_
        exact ret1 rfl (r_cellA 0 rfl rfl Tb.ag30 (by rw [hcl]; exact Tb.sz30)) fun w hs => Post.pure hs
      · have h2l : 2 ≤ l.length := by omega
        have hs := split_spec h2l
        subst hn
        refine JC.skip ?_
        refine JQ.next hK5 ?_
        refine JC.seq fun K8 hK8 => ?_
        refine JC.region ?_
        refine J.yl (y_move rfl rfl) rfl rfl rfl ?_
        refine J.yl (y_len rfl Tryd.underlying22 rfl) rfl rfl rfl ?_
        refine J.callv rfl rfl rfl rfl Tb.cl145 rfl (rsplit_fn l.length _ rfl (by omega)) ?_
        refine J.yl (y_assign rfl rfl) rfl rfl rfl ?_
        refine J.nil ?_
        refine JQ.next hK8 ?_
        refine JC.seq fun K9 hK9 => ?_
        refine JC.draw (by kernel_rfl) ?_
        refine D.take 0 (y_move rfl rfl) rfl rfl rfl rfl (by kernel_rfl) (by kernel_rfl) (by kernel_rfl) (PQ.next PQ.body) ?_
        refine D.take 1 (y_move rfl rfl) rfl rfl rfl rfl (by kernel_rfl) (by kernel_rfl) (by kernel_rfl) (PQ.next PQ.body) ?_
        refine D.take 4 (y_move rfl rfl) rfl rfl rfl rfl (by kernel_rfl) (by kernel_rfl) (by kernel_rfl) (PQ.next PQ.body) ?_
        refine D.take 5 (y_move rfl rfl) rfl rfl rfl rfl (by kernel_rfl) (by kernel_rfl) (by kernel_rfl) (PQ.next PQ.body) ?_
        refine D.take 2 (y_cuttoN (split l.length) rfl Tryd.underlying22 Tb.sz30 rfl rfl rfl (by omega)) rfl rfl rfl rfl (by kernel_rfl) (by kernel_rfl) (by kernel_rfl) (PQ.next PQ.body) ?_
        refine D.take 6 (y_cutfromN (split l.length) rfl Tryd.underlying22 Tb.sz30 rfl rfl rfl (by omega)) rfl rfl rfl rfl (by kernel_rfl) (by kernel_rfl) (by kernel_rfl) (PQ.next PQ.body) ?_
        refine D.callv 3 (by kernel_rfl) rfl rfl rfl rfl rfl Tb.cl86 rfl (ih (l.take (split l.length)) A _ _ (by rw [List.length_take]; omega) (by rw [List.length_take]; omega) (by omega) (by omega) _ (fun w h => (hA w h.1).htake _)) ?_
        refine D.callv 7 (by kernel_rfl) rfl rfl rfl rfl rfl Tb.cl86 rfl (ih (l.drop (split l.length)) _ _ _ (by rw [List.length_drop]; omega) (by rw [List.length_drop]) (by omega) (by omega) _ (fun w h => (hA w h.1).hdrop _ _ hk (by omega))) ?_
        refine D.callv 8 (by kernel_rfl) rfl rfl rfl rfl rfl Tb.cl139 rfl (rnode_spec _ _) ?_
        refine D.storeW 9 0 (by kernel_rfl) rfl (by kernel_rfl) (by kernel_rfl) rfl rfl rfl rfl rfl rfl rfl Tb.sz30  (hcl _) (hcl _) (hc1 _) ?_
        refine JQ.next hK9 ?_
        refine JC.ret ?_
        exact ret1 rfl (r_cellA 0 rfl rfl Tb.ag30 (by rw [hcl]; exact Tb.sz30)) fun w hs => by rw [root_two l h2l]; exact Post.pure hs
end Go.Proofs.YtjkfeonbioccmaaDoor
namespace Go.Proofs.YtjkfeonbioccmaaDoor
open Go Go.Sx Go.RowKit
set_option linter.unusedVariables false
set_option linter.unusedSimpArgs false
set_option maxRecDepth 100000
set_option maxHeartbeats 400000
variable {Gl F : World → Prop}

theorem root1_spec (l : List H) (A : Option Addr) (n k g1 g3 : Nat) (hn : l.length = n) (hk : n ≤ k) (hM : n ≤ 1000000) : ∀ (m i j : Nat), i < j → j ≤ n → j - i ≤ m → ∀ (a b : Int), a = i → b = j → ∀ F : World → Prop, (∀ w, F w → w.cell? ⟨g1, 0, none⟩ = some (.slice A n k) ∧ w.cell? ⟨g3, 0, none⟩ = some (.func (.func 114) #[] #[.pointer (some ⟨g1, 0, none⟩), .pointer (some ⟨g3, 0, none⟩)]) ∧ Sl w A (hcs l)) →
    PureFn Tryd.prog Gs 114 [.int .i64 a, .int .i64 b, .pointer (some ⟨g1, 0, none⟩), .pointer (some ⟨g3, 0, none⟩)] F (hv (root ((l.take j).drop i))) := by
  intro m
  induction m with
  | zero => intro i j h1 h2 h3; omega
  | succ m ih =>
    intro i j h1 h2 h3 a b ha hb F hF
    subst ha; subst hb
    have hlen : ((l.take j).drop i).length = j - i := by rw [List.length_drop, List.length_take]; omega
    refine FnSpec.intro Tryd.func114 rfl Tryd.ntmps114 rfl fun X M w => ?_
    refine JC.seq fun K1 hK1 => ?_
    refine JC.region ?_
    refine J.alloc rfl rfl rfl rfl Tb.zz30 rfl fun g6 => ?_
    refine J.nil ?_
    refine JQ.next hK1 ?_
    refine JC.seq fun K2 hK2 => ?_
    refine JC.region ?_
    refine J.yl (y_move rfl rfl) rfl rfl rfl ?_
    refine J.yl (y_move rfl rfl) rfl rfl rfl ?_
    refine J.yl (y_sub64 rfl rfl rfl (by omega)) rfl rfl rfl ?_
    refine J.callv rfl rfl rfl rfl Tb.cl107 rfl (split_fn (j - i) _ (by omega) (by omega)) ?_
    refine J.yl (y_assign rfl rfl) rfl rfl rfl ?_
    refine J.nil ?_
    refine JQ.next hK2 ?_
    refine JC.seq fun K3 hK3 => ?_
    refine JC.seq fun K4 hK4 => ?_
    refine JC.region ?_
    refine J.yl (y_move rfl rfl) rfl rfl rfl ?_
    refine J.yl (y_eq rfl rfl rfl) rfl rfl rfl ?_
    refine J.nil ?_
    refine JQ.next hK4 ?_
    refine JC.condp rfl (fun h4 => ?_) (fun h4 => ?_)
    · have h5 : j - i = 1 := by
        rcases Nat.lt_or_ge (j - i) 2 with h | h
        · omega
        · have := split_spec h; omega
      obtain ⟨x, hx⟩ : ∃ x, l[i]? = some x := ⟨_, List.getElem?_eq_getElem (show i < l.length by omega)⟩
      have hr : root ((l.take j).drop i) = x := by
        have h6 : (l.take j).drop i = [x] := by
          apply List.ext_getElem?
          intro q
          rw [List.getElem?_drop, List.getElem?_take]
          cases q with
          | zero => rw [if_pos (by omega), Nat.add_zero, hx]; rfl
          | succ q => rw [if_neg (by omega)]; rfl
        rw [h6]; rfl
      refine JC.seq fun K5 hK5 => ?_
      refine JC.region ?_
      refine J.yl (y_load1 rfl Tb.ag22 rfl (fun w hs => (hF w hs.fact).1)) rfl rfl rfl ?_
      refine J.yl (y_move rfl rfl) rfl rfl rfl ?_
      refine J.yl (y_hidx i rfl Tryd.underlying22 Tb.sz30 rfl rfl rfl hn (by omega) (fun w hs => (hF w hs.fact).2.2)) rfl rfl rfl ?_
      refine J.yl (y_hld x rfl Tb.ag30 Tb.sz30 rfl hx (fun w hs => (hF w hs.fact).2.2)) rfl rfl rfl ?_
      refine J.storeW 0 rfl rfl rfl rfl rfl rfl rfl Tb.sz30 (hcl _) (hcl _) (hc1 _) ?_
      refine J.nil ?_
      refine JQ.next hK5 ?_
      refine JC.ret ?_
      refine JQ.then_ret ?_
      exact ret1 rfl (r_cellA 0 rfl rfl Tb.ag30 (by rw [hcl]; exact Tb.sz30)) fun w hs => by rw [hr]; exact Post.pure hs
    · have h5 : 2 ≤ j - i := by
        rcases Nat.lt_or_ge (j - i) 2 with h | h
        · rw [split_small h] at h4; omega
        · exact h
      have hs := split_spec h5
      have hr : root ((l.take j).drop i) = node (root ((l.take (i + split (j - i))).drop i)) (root ((l.take j).drop (i + split (j - i)))) := by
        rw [root_two _ (by omega), hlen, take_drop_take _ _ _ _ (by omega), List.drop_drop]
      refine JC.skip ?_
      refine JQ.next hK3 ?_
      refine JC.seq fun K6 hK6 => ?_
      refine JC.draw (by kernel_rfl) ?_
      refine D.take 1 (y_move rfl rfl) rfl rfl rfl rfl (by kernel_rfl) (by kernel_rfl) (by kernel_rfl) (PQ.next PQ.body) ?_
      refine D.take 2 (y_move rfl rfl) rfl rfl rfl rfl (by kernel_rfl) (by kernel_rfl) (by kernel_rfl) (PQ.next PQ.body) ?_
      refine D.take 3 (y_move rfl rfl) rfl rfl rfl rfl (by kernel_rfl) (by kernel_rfl) (by kernel_rfl) (PQ.next PQ.body) ?_
      refine D.take 4 (y_add64 rfl rfl rfl (by omega)) rfl rfl rfl rfl (by kernel_rfl) (by kernel_rfl) (by kernel_rfl) (PQ.next PQ.body) ?_
      refine D.take 7 (y_move rfl rfl) rfl rfl rfl rfl (by kernel_rfl) (by kernel_rfl) (by kernel_rfl) (PQ.next PQ.body) ?_
      refine D.take 8 (y_move rfl rfl) rfl rfl rfl rfl (by kernel_rfl) (by kernel_rfl) (by kernel_rfl) (PQ.next PQ.body) ?_
      refine D.take 9 (y_add64 rfl rfl rfl (by omega)) rfl rfl rfl rfl (by kernel_rfl) (by kernel_rfl) (by kernel_rfl) (PQ.next PQ.body) ?_
      refine D.take 10 (y_move rfl rfl) rfl rfl rfl rfl (by kernel_rfl) (by kernel_rfl) (by kernel_rfl) (PQ.next PQ.body) ?_
      refine D.take 0 (y_load1 rfl Tb.ag162 rfl (fun w hs => (hF w hs.fact).2.1)) rfl rfl rfl rfl (by kernel_rfl) (by kernel_rfl) (by kernel_rfl) (PQ.next PQ.body) ?_
      refine D.take 6 (y_load1 rfl Tb.ag162 rfl (fun w hs => (hF w hs.fact).2.1)) rfl rfl rfl rfl (by kernel_rfl) (by kernel_rfl) (by kernel_rfl) (PQ.next PQ.body) ?_
      refine D.callcv 5 (by kernel_rfl) rfl rfl rfl rfl rfl rfl Tb.cl114 rfl (ih i (i + split (j - i)) (by omega) (by omega) (by omega) _ _ rfl (by omega) _ (fun w h => hF w h.1)) ?_
      refine D.callcv 11 (by kernel_rfl) rfl rfl rfl rfl rfl rfl Tb.cl114 rfl (ih (i + split (j - i)) j (by omega) (by omega) (by omega) _ _ (by omega) rfl _ (fun w h => hF w h.1)) ?_
      refine D.callv 12 (by kernel_rfl) rfl rfl rfl rfl rfl Tb.cl105 rfl (node_spec _ _) ?_
      refine D.storeW 13 0 (by kernel_rfl) rfl (by kernel_rfl) (by kernel_rfl) rfl rfl rfl rfl rfl rfl rfl Tb.sz30  (hcl _) (hcl _) (hc1 _) ?_
      refine JQ.next hK6 ?_
      refine JC.ret ?_
      exact ret1 rfl (r_cellA 0 rfl rfl Tb.ag30 (by rw [hcl]; exact Tb.sz30)) fun w hs => by rw [hr]; exact Post.pure hs
theorem root_spec (l : List H) (A : Option Addr) (n k : Nat) (hn : l.length = n) (hk : n ≤ k) (hM : n ≤ 1000000) (hA : ∀ w, F w → Sl w A (hcs l)) : PureFn Tryd.prog Gs 30 [.slice A n k] F (hv (root l)) := by
  refine FnSpec.intro Tryd.func30 rfl Tryd.ntmps30 rfl fun X M w => ?_
  refine JC.seq fun K1 hK1 => ?_
  refine JC.region ?_
  refine J.box rfl rfl rfl rfl rfl rfl fun g1 => ?_
  refine J.alloc rfl rfl rfl rfl Tb.zz30 rfl fun g2 => ?_
  refine J.nil ?_
  refine JQ.next hK1 ?_
  refine JC.seq fun K2 hK2 => ?_
  refine JC.seq fun K3 hK3 => ?_
  refine JC.region ?_
  refine J.yl (y_lb 1 rfl Tb.ag22 rfl rfl rfl) rfl rfl rfl ?_
  refine J.yl (y_len rfl Tryd.underlying22 rfl) rfl rfl rfl ?_
  refine J.yl (y_eq rfl rfl rfl) rfl rfl rfl ?_
  refine J.nil ?_
  refine JQ.next hK3 ?_
  refine JC.condp rfl (fun h1 => ?_) (fun h1 => ?_)
  · obtain rfl : l = [] := List.eq_nil_of_length_eq_zero (by omega)
    refine JC.seq fun K4 hK4 => ?_
    refine JC.region ?_
    refine J.callv rfl rfl rfl rfl Tb.cl113 rfl (sum_spec (fun _ h => h) [] (by simp)) ?_
    refine J.storeW 0 rfl rfl rfl rfl rfl rfl rfl Tb.sz30 (hcl _) (hcl _) (hc1 _) ?_
    refine J.nil ?_
    refine JQ.next hK4 ?_
    refine JC.ret ?_
    refine JQ.then_ret ?_
    exact ret1 rfl (r_cellA 0 rfl rfl Tb.ag30 (by rw [hcl]; exact Tb.sz30)) fun w hs => Post.pure hs
  · refine JC.skip ?_
    refine JQ.next hK2 ?_
    refine JC.seq fun K5 hK5 => ?_
    refine JC.region ?_
    refine J.alloc rfl rfl rfl rfl Tb.zz162 rfl fun g3 => ?_
    refine J.nil ?_
    refine JQ.next hK5 ?_
    refine JC.seq fun K6 hK6 => ?_
    refine JC.region ?_
    refine J.yl (y_funcE rfl rfl rfl) rfl rfl rfl ?_
    refine J.store1 0 rfl rfl rfl rfl rfl rfl rfl Tb.sz162 (by first | (simp; done) | exact Nat.le_of_ble_eq_true rfl) rfl ?_
    refine J.nil ?_
    refine JQ.next hK6 ?_
    refine JC.seq fun K7 hK7 => ?_
    refine JC.region ?_
    refine J.yl (y_lb 0 rfl Tb.ag162 rfl rfl rfl) rfl rfl rfl ?_
    refine J.yl (y_lb 2 rfl Tb.ag22 rfl rfl rfl) rfl rfl rfl ?_
    refine J.yl (y_len rfl Tryd.underlying22 rfl) rfl rfl rfl ?_
    refine J.callcv rfl rfl rfl rfl rfl Tb.cl114 rfl (root1_spec l A n k g1 g3 hn hk hM n 0 n (by omega) (Nat.le_refl _) (by omega) _ _ rfl rfl _ (fun w h => ⟨cell_box (ck 2 rfl h) rfl, cell_box (ck 0 rfl h) rfl, hA w h.1⟩)) ?_
    refine J.storeW 1 rfl rfl rfl rfl rfl rfl rfl Tb.sz30 (hcl _) (hcl _) (hc1 _) ?_
    refine J.nil ?_
    refine JQ.next hK7 ?_
    refine JC.ret ?_
    exact ret1 rfl (r_cellA 1 rfl rfl Tb.ag30 (by rw [hcl]; exact Tb.sz30)) fun w hs => by
      have hr : (l.take n).drop 0 = l := by rw [List.drop_zero, List.take_of_length_le (by omega)]
      rw [hr]; exact Post.pure hs
theorem some_fn (n : Nat) (a : Int) (seed : UInt8) (ha : a = n) (hn : n ≤ 100000) : FnSpec Tryd.prog Gl 29 [.int .i64 a, u8 seed] [] F (ι := Option Addr × Nat) (fun i => n ≤ i.2) (fun i => .slice i.1 n i.2) (fun i => [.row (.slice i.1 n i.2) 30 32 n (hcs (someL n seed))]) (fun _ _ => True) := by
  subst ha
  refine FnSpec.intro Tryd.func29 rfl Tryd.ntmps29 rfl fun X M w => ?_
  refine JC.seq fun K1 hK1 => ?_
  refine JC.region ?_
  refine J.yl (y_assign rfl rfl) rfl rfl rfl ?_
  refine J.nil ?_
  refine JQ.next hK1 ?_
  refine JC.seq fun K2 hK2 => ?_
  refine JC.region ?_
  refine J.yl (y_assign rfl rfl) rfl rfl rfl ?_
  refine J.nil ?_
  refine JQ.next hK2 ?_
  refine JC.seq fun K3 hK3 => ?_
  refine JC.seq fun K4 hK4 => ?_
  refine JC.region ?_
  refine J.yl (y_assign rfl rfl) rfl rfl rfl ?_
  refine J.nil ?_
  refine JQ.next hK4 ?_
  refine JC.block ?_
  refine JC.st ?_ (fun w hs => hs.nilrow 30 32)
  refine JC.loopE (σ := Nat × Option Addr × Nat) (M := fun q => [(6, .int .i64 (q.1 : Int)), (5, .slice q.2.1 q.1 q.2.2)]) (kp := [(0, _), (1, _)]) (hkp := (okE_cons rfl (okE_cons rfl okE_nil))) (Dc := fun q => [.row (.slice q.2.1 q.1 q.2.2) 30 32 q.1 (hcs (someL q.1 seed))]) (H := fun _ => F) (Ψ := fun q => q.1 ≤ n ∧ q.1 ≤ q.2.2) (μ := fun q => n - q.1) (0, none, 0) ⟨Nat.zero_le _, Nat.zero_le _⟩ (okE_cons rfl (okE_cons rfl okE_nil)) (fun w h => h) (fun sK5 hK5 K5 againK5 => ?_)
  obtain ⟨i, A, k⟩ := sK5
  dsimp only at hK5 againK5 ⊢
  obtain ⟨hi, hik⟩ := hK5
  refine JC.seq fun K6 hK6 => ?_
  refine JC.seq fun K7 hK7 => ?_
  refine JC.region ?_
  refine J.yl (y_move rfl rfl) rfl rfl rfl ?_
  refine J.yl (y_move rfl rfl) rfl rfl rfl ?_
  refine J.yl (y_lt rfl rfl rfl) rfl rfl rfl ?_
  refine J.nil ?_
  refine JQ.next hK7 ?_
  refine JC.condp rfl (fun h1 => ?_) (fun h1 => ?_)
  · refine JC.skip ?_
    refine JQ.next hK6 ?_
    refine JC.seq fun K8 hK8 => ?_
    refine JC.block ?_
    refine JC.region ?_
    refine J.yl (y_move rfl rfl) rfl rfl rfl ?_
    refine J.yl (y_move rfl rfl) rfl rfl rfl ?_
    refine J.yl (y_move rfl rfl) rfl rfl rfl ?_
    refine J.yl (y_ito8 i rfl (isS Tryd.underlying3) Tryd.underlying5 rfl rfl) rfl rfl rfl ?_
    refine J.yl (y_move rfl rfl) rfl rfl rfl ?_
    refine J.yl (y_quo64 rfl rfl rfl (by omega)) rfl rfl rfl ?_
    refine J.yl (y_ito8 (i / 256) rfl (isS Tryd.underlying3) Tryd.underlying5 rfl (by omega)) rfl rfl rfl ?_
    refine J.yl (y_buildA (cs := hc (someH seed i)) rfl Tryd.underlying30 Tb.zz30 Tb.sz5 rfl (fillH seed (UInt8.ofNat i) (UInt8.ofNat (i / 256)) 1)) rfl rfl rfl ?_
    refine J.bs1 rfl rfl rfl rfl rfl Tryd.underlying22 Tb.zz30 Tb.sz30 rfl (by decide) rfl (hcl _) fun g20 => ?_
    refine J.append 1 rfl rfl rfl rfl rfl rfl Tryd.underlying22 Tb.zz30 Tb.sz30 Tb.by30 rfl (by decide) rfl (by rw [hcl]) (fun w hs => .inr ⟨rfl, At.box (hs.get (i := 0) rfl)⟩) (hc1 _) (by omega) (by decide) (rfl) ((by rw [someL_succ, hcs_append, hcs_one] : hcs (someL i seed) ++ hc (someH seed i) = hcs (someL (i + 1) seed))) fun A k hAx hkx => ?_
    refine J.drop ?_
    refine J.yl (y_assign rfl rfl) rfl rfl rfl ?_
    refine J.nil ?_
    refine JQ.block_normal (JQ.next hK8 ?_)
    refine JC.region ?_
    refine J.yl (y_move rfl rfl) rfl rfl rfl ?_
    refine J.yl (y_add64 rfl rfl rfl (by omega)) rfl rfl rfl ?_
    refine J.yl (y_assign rfl rfl) rfl rfl rfl ?_
    refine J.nil ?_
    refine againK5 (i + 1, A, k) _ ⟨by dsimp only; omega, by dsimp only; omega⟩ (by dsimp only; omega) (okE_cons rfl (okE_cons rfl okE_nil)) (okE_cons rfl (okE_cons rfl okE_nil))
  · obtain rfl : i = n := by omega
    refine JC.exit ?_
    refine JQ.then_exit (JQ.then_exit (JQ.block_hit (JQ.next hK3 ?_)))
    refine JC.seq fun K10 hK10 => ?_
    refine JC.region ?_
    refine J.yl (y_move rfl rfl) rfl rfl rfl ?_
    refine J.yl (y_assign rfl rfl) rfl rfl rfl ?_
    refine J.nil ?_
    refine JQ.next hK10 ?_
    refine JC.ret ?_
    exact ret1 rfl (r_tmp rfl) fun w hs => Post.of_st hs (A, k) hik (List.Sublist.refl _) fun _ _ => trivial
theorem same_fn (a b : List H) (A B : Option Addr) (n m k j : Nat) (hn : a.length = n) (hm : b.length = m) (hM : n ≤ 1000000) (hA : ∀ w, F w → Sl w A (hcs a)) (hB : ∀ w, F w → Sl w B (hcs b)) : PureFn Tryd.prog Gl 26 [.slice A n k, .slice B m j] F (.bool (decide (a = b))) := by
  refine FnSpec.intro Tryd.func26 rfl Tryd.ntmps26 rfl fun X M w => ?_
  refine JC.seq fun K1 hK1 => ?_
  refine JC.region ?_
  refine J.yl (y_assign rfl rfl) rfl rfl rfl ?_
  refine J.nil ?_
  refine JQ.next hK1 ?_
  refine JC.seq fun K2 hK2 => ?_
  refine JC.seq fun K3 hK3 => ?_
  refine JC.region ?_
  refine J.yl (y_move rfl rfl) rfl rfl rfl ?_
  refine J.yl (y_len rfl Tryd.underlying22 rfl) rfl rfl rfl ?_
  refine J.yl (y_move rfl rfl) rfl rfl rfl ?_
  refine J.yl (y_len rfl Tryd.underlying22 rfl) rfl rfl rfl ?_
  refine J.yl (y_ne rfl rfl rfl) rfl rfl rfl ?_
  refine J.nil ?_
  refine JQ.next hK3 ?_
  refine JC.condn rfl (fun h1 => ?_) (fun h1 => ?_)
  · have hne : a ≠ b := by rintro rfl; omega
    refine JC.seq fun K4 hK4 => ?_
    refine JC.region ?_
    refine J.yl (y_assign rfl rfl) rfl rfl rfl ?_
    refine J.nil ?_
    refine JQ.next hK4 ?_
    refine JC.ret ?_
    refine JQ.then_ret ?_
    exact ret1 rfl (r_tmp rfl) fun w hs => by rw [decide_eq_false hne]; exact Post.pure hs
  · have h1' : n = m := by omega
    subst h1'
    refine JC.skip ?_
    refine JQ.next hK2 ?_
    refine JC.seq fun K5 hK5 => ?_
    refine JC.seq fun K6 hK6 => ?_
    refine JC.region ?_
    refine J.yl (y_assign rfl rfl) rfl rfl rfl ?_
    refine J.nil ?_
    refine JQ.next hK6 ?_
    refine JC.block ?_
    refine JC.loopE (σ := Nat) (M := fun i => [(5, .int .i64 (i : Int))]) (kp := [(0, _), (1, _)]) (hkp := (okE_cons rfl (okE_cons rfl okE_nil))) (Dc := fun _ => []) (H := fun _ => F) (Ψ := fun i => i ≤ n ∧ a.take i = b.take i) (μ := fun i => n - i) 0 ⟨Nat.zero_le _, rfl⟩ (okE_cons rfl okE_nil) (fun w h => h) (fun i ⟨hi, hab⟩ K7 againK7 => ?_)
    refine JC.seq fun K8 hK8 => ?_
    refine JC.seq fun K9 hK9 => ?_
    refine JC.region ?_
    refine J.yl (y_move rfl rfl) rfl rfl rfl ?_
    refine J.yl (y_move rfl rfl) rfl rfl rfl ?_
    refine J.yl (y_len rfl Tryd.underlying22 rfl) rfl rfl rfl ?_
    refine J.yl (y_lt rfl rfl rfl) rfl rfl rfl ?_
    refine J.nil ?_
    refine JQ.next hK9 ?_
    refine JC.condp rfl (fun h2 => ?_) (fun h2 => ?_)
    · obtain ⟨x, hx⟩ : ∃ x, a[i]? = some x := ⟨_, List.getElem?_eq_getElem (show i < a.length by omega)⟩
      obtain ⟨y, hy⟩ : ∃ y, b[i]? = some y := ⟨_, List.getElem?_eq_getElem (show i < b.length by omega)⟩
      refine JC.skip ?_
      refine JQ.next hK8 ?_
      refine JC.seq fun K10 hK10 => ?_
      refine JC.block ?_
      refine JC.seq fun K11 hK11 => ?_
      refine JC.draw (by kernel_rfl) ?_
      refine D.take 0 (y_move rfl rfl) rfl rfl rfl rfl (by kernel_rfl) (by kernel_rfl) (by kernel_rfl) (PQ.next (PQ.block (PQ.next (PQ.next (PQ.block (PQ.next PQ.body)))))) ?_
      refine D.take 1 (y_move rfl rfl) rfl rfl rfl rfl (by kernel_rfl) (by kernel_rfl) (by kernel_rfl) (PQ.next (PQ.block (PQ.next (PQ.next (PQ.block (PQ.next PQ.body)))))) ?_
      refine D.take 4 (y_move rfl rfl) rfl rfl rfl rfl (by kernel_rfl) (by kernel_rfl) (by kernel_rfl) (PQ.next (PQ.block (PQ.next (PQ.next (PQ.block (PQ.next PQ.body)))))) ?_
      refine D.take 5 (y_move rfl rfl) rfl rfl rfl rfl (by kernel_rfl) (by kernel_rfl) (by kernel_rfl) (PQ.next (PQ.block (PQ.next (PQ.next (PQ.block (PQ.next PQ.body)))))) ?_
      refine D.take 2 (y_hidx i rfl Tryd.underlying22 Tb.sz30 rfl rfl rfl hn (by omega) (fun w hs => hA w hs.fact)) rfl rfl rfl rfl (by kernel_rfl) (by kernel_rfl) (by kernel_rfl) (PQ.next (PQ.block (PQ.next (PQ.next (PQ.block (PQ.next PQ.body)))))) ?_
      refine D.take 3 (y_hld x rfl Tb.ag30 Tb.sz30 rfl hx (fun w hs => hA w hs.fact)) rfl rfl rfl rfl (by kernel_rfl) (by kernel_rfl) (by kernel_rfl) (PQ.next (PQ.block (PQ.next (PQ.next (PQ.block (PQ.next PQ.body)))))) ?_
      refine D.take 6 (y_hidx i rfl Tryd.underlying22 Tb.sz30 rfl rfl rfl hm (by omega) (fun w hs => hB w hs.fact)) rfl rfl rfl rfl (by kernel_rfl) (by kernel_rfl) (by kernel_rfl) (PQ.next (PQ.block (PQ.next (PQ.next (PQ.block (PQ.next PQ.body)))))) ?_
      refine D.take 7 (y_hld y rfl Tb.ag30 Tb.sz30 rfl hy (fun w hs => hB w hs.fact)) rfl rfl rfl rfl (by kernel_rfl) (by kernel_rfl) (by kernel_rfl) (PQ.next (PQ.block (PQ.next (PQ.next (PQ.block (PQ.next PQ.body)))))) ?_
      refine D.take 8 (y_hne rfl Tryd.underlying30 Tryd.underlying5 Tb.ag5 Tb.sz5 Tb.eg30 rfl rfl) rfl rfl rfl rfl (by kernel_rfl) (by kernel_rfl) (by kernel_rfl) (PQ.next (PQ.block (PQ.next (PQ.next (PQ.block (PQ.next PQ.body)))))) ?_
      refine D.done (by kernel_rfl) ?_
      refine JQ.next hK11 ?_
      refine JC.condn rfl (fun h3 => ?_) (fun h3 => ?_)
      · have hne : a ≠ b := by
          rintro rfl
          rw [hx] at hy
          exact h3 (Option.some.inj hy)
        refine JC.seq fun K12 hK12 => ?_
        refine JC.region ?_
        refine J.yl (y_assign rfl rfl) rfl rfl rfl ?_
        refine J.nil ?_
        refine JQ.next hK12 ?_
        refine JC.ret ?_
        refine JQ.block_ret (JQ.then_ret (JQ.then_ret (JQ.block_ret (JQ.then_ret ?_))))
        exact ret1 rfl (r_tmp rfl) fun w hs => by rw [decide_eq_false hne]; exact Post.pure hs
      · have hxy : a.take (i + 1) = b.take (i + 1) := by rw [List.take_add_one, List.take_add_one, hab, hx, hy, h3]
        refine JC.skip ?_
        refine JQ.block_normal (JQ.next hK10 ?_)
        refine JC.region ?_
        refine J.yl (y_move rfl rfl) rfl rfl rfl ?_
        refine J.yl (y_add64 rfl rfl rfl (by omega)) rfl rfl rfl ?_
        refine J.yl (y_assign rfl rfl) rfl rfl rfl ?_
        refine J.nil ?_
        refine againK7 (i + 1) _ ⟨by omega, hxy⟩ (by omega) (okE_cons rfl okE_nil) (okE_cons rfl (okE_cons rfl okE_nil))
    · have hab' : a = b := by
        have h3 : i = n := by omega
        subst h3
        rwa [List.take_of_length_le (by omega), List.take_of_length_le (by omega)] at hab
      refine JC.exit ?_
      refine JQ.then_exit (JQ.then_exit (JQ.block_hit (JQ.next hK5 ?_)))
      refine JC.seq fun K13 hK13 => ?_
      refine JC.region ?_
      refine J.yl (y_assign rfl rfl) rfl rfl rfl ?_
      refine J.nil ?_
      refine JQ.next hK13 ?_
      refine JC.ret ?_
      exact ret1 rfl (r_tmp rfl) fun w hs => by rw [decide_eq_true hab']; exact Post.pure hs
end Go.Proofs.YtjkfeonbioccmaaDoor
namespace Go.Proofs.YtjkfeonbioccmaaDoor
open Go Go.Sx Go.RowKit
set_option linter.unusedVariables false
set_option linter.unusedSimpArgs false
set_option maxRecDepth 100000
set_option maxHeartbeats 400000
variable {Gl F : World → Prop}

/-- A list of hashes that a call hands back as its own. -/
abbrev OwnL (l : List H) : Option Addr × Nat → List Chunk := fun i => [.row (.slice i.1 l.length i.2) 30 32 l.length (hcs l)]
theorem rsub_fn : ∀ (N : Nat) (l : List H) (m : Nat) (known : Bool) (A : Option Addr) (n k : Nat) (a : Int), n ≤ N → 1 ≤ m → m ≤ n → l.length = n → n ≤ k → n ≤ 100000 → a = m → ∀ F : World → Prop, (∀ w, F w → Sl w A (hcs l)) →
    FnSpec Tryd.prog Gl 108 [.slice A n k, .int .i64 a, .bool known] [] F (ι := Option Addr × Nat) (fun i => (sub l m known).length ≤ i.2 ∧ (sub l m known).length ≤ n) (fun i => .slice i.1 (sub l m known).length i.2) (OwnL (sub l m known)) (fun _ _ => True) := by
  intro N
  induction N with
  | zero => intro l m known A n k a h0 h1 h2; omega
  | succ N ih =>
    intro l m known A n k a h0 h1 h2 hn hk hM ha F hA
    subst ha
    refine FnSpec.intro Tryd.func108 rfl Tryd.ntmps108 rfl fun X M w => ?_
    refine JC.seq fun K1 hK1 => ?_
    refine JC.region ?_
    refine J.yl (y_assign rfl rfl) rfl rfl rfl ?_
    refine J.nil ?_
    refine JQ.next hK1 ?_
    refine JC.seq fun K2 hK2 => ?_
    refine JC.seq fun K3 hK3 => ?_
    refine JC.region ?_
    refine J.yl (y_move rfl rfl) rfl rfl rfl ?_
    refine J.yl (y_move rfl rfl) rfl rfl rfl ?_
    refine J.yl (y_len rfl Tryd.underlying22 rfl) rfl rfl rfl ?_
    refine J.ylp (y_eq rfl rfl rfl) rfl rfl rfl (fun hm => ?_) (fun hm => ?_)
    · have hmn : m = l.length := by omega
      refine J.yl (y_move rfl rfl) rfl rfl rfl ?_
      refine J.gyes (y_move rfl rfl) rfl rfl rfl rfl rfl rfl ?_
      refine J.yl (y_pick rfl rfl (fun _ => rfl) (fun h => by cases h)) rfl rfl rfl ?_
      refine J.nil ?_
      refine JQ.next hK3 ?_
      have hsub := sub_all l m known hmn
      cases known with
      | true =>
        have hsub : sub l m true = [] := hsub
        refine JC.yes rfl ?_
        refine JC.seq fun K4 hK4 => ?_
        refine JC.region ?_
        refine J.yl (y_assign rfl rfl) rfl rfl rfl ?_
        refine J.nil ?_
        refine JQ.next hK4 ?_
        refine JC.ret ?_
        refine JQ.then_ret ?_
        rw [hsub]
        refine JQ.st ?_ (fun w hs => hs.nilrow 30 32)
        exact ret1 rfl (r_tmp rfl) fun w hs => Post.of_st hs (none, 0) ⟨Nat.le_refl _, Nat.zero_le _⟩ (List.Sublist.refl _) fun _ _ => trivial
      | false =>
        have hsub : sub l m false = [root l] := hsub
        refine JC.no rfl ?_
        refine JC.skip ?_
        refine JQ.next hK2 ?_
        refine JC.seq fun K5 hK5 => ?_
        refine JC.seq fun K6 hK6 => ?_
        refine JC.region ?_
        refine J.yl (y_move rfl rfl) rfl rfl rfl ?_
        refine J.yl (y_move rfl rfl) rfl rfl rfl ?_
        refine J.yl (y_len rfl Tryd.underlying22 rfl) rfl rfl rfl ?_
        refine J.yl (y_eq rfl rfl rfl) rfl rfl rfl ?_
        refine J.nil ?_
        refine JQ.next hK6 ?_
        refine JC.condp rfl (fun h3 => ?_) (fun h3 => ?_)
        · refine JC.seq fun K7 hK7 => ?_
          refine JC.region ?_
          refine J.yl (y_move rfl rfl) rfl rfl rfl ?_
          refine J.callv rfl rfl rfl rfl Tb.cl86 rfl (rroot_spec n l A n k (by omega) hn hk (by omega) _ (fun w h => hA w h.1)) ?_
          refine J.bs1 rfl rfl rfl rfl rfl Tryd.underlying22 Tb.zz30 Tb.sz30 rfl (by decide) rfl (hcl _) fun g21 => ?_
          refine J.yl (y_assign rfl rfl) rfl rfl rfl ?_
          refine J.nil ?_
          refine JQ.next hK7 ?_
          refine JC.ret ?_
          refine JQ.then_ret ?_
          rw [hsub]
          refine JQ.st ?_ (fun w hs => hs.boxrow (n := 1) (sz := 32) 0 rfl (by rw [hcl]) (by omega))
          exact ret1 rfl (r_tmp rfl) fun w hs => Post.of_st hs (_, 1) ⟨Nat.le_refl _, by simp; omega⟩ (by simp only [OwnL, hcs_one]; exact List.Sublist.refl _) fun _ _ => trivial
        · omega
    · have hmn : ¬ m = l.length := by omega
      refine J.yl (y_move rfl rfl) rfl rfl rfl ?_
      refine J.gno (b := false) rfl rfl rfl rfl rfl rfl ?_
      refine J.yl (y_pick rfl rfl (fun h => by cases h) (fun _ => rfl)) rfl rfl rfl ?_
      refine J.nil ?_
      refine JQ.next hK3 ?_
      refine JC.no rfl ?_
      refine JC.skip ?_
      refine JQ.next hK2 ?_
      refine JC.seq fun K8 hK8 => ?_
      refine JC.seq fun K9 hK9 => ?_
      refine JC.region ?_
      refine J.yl (y_move rfl rfl) rfl rfl rfl ?_
      refine J.yl (y_move rfl rfl) rfl rfl rfl ?_
      refine J.yl (y_len rfl Tryd.underlying22 rfl) rfl rfl rfl ?_
      refine J.yl (y_eq rfl rfl rfl) rfl rfl rfl ?_
      refine J.nil ?_
      refine JQ.next hK9 ?_
      refine JC.condp rfl (fun h4 => ?_) (fun h4 => ?_)
      · omega
      · have h2l : 2 ≤ l.length := by omega
        have hs := split_spec h2l
        refine JC.skip ?_
        refine JQ.next hK8 ?_
        refine JC.seq fun K10 hK10 => ?_
        refine JC.region ?_
        refine J.yl (y_move rfl rfl) rfl rfl rfl ?_
        refine J.yl (y_len rfl Tryd.underlying22 rfl) rfl rfl rfl ?_
        refine J.callv rfl rfl rfl rfl Tb.cl145 rfl (rsplit_fn l.length _ (by omega) (by omega)) ?_
        refine J.yl (y_assign rfl rfl) rfl rfl rfl ?_
        refine J.nil ?_
        refine JQ.next hK10 ?_
        refine JC.seq fun K11 hK11 => ?_
        refine JC.seq fun K12 hK12 => ?_
        refine JC.region ?_
        refine J.yl (y_move rfl rfl) rfl rfl rfl ?_
        refine J.yl (y_move rfl rfl) rfl rfl rfl ?_
        refine J.yl (y_le rfl rfl rfl) rfl rfl rfl ?_
        refine J.nil ?_
        refine JQ.next hK12 ?_
        subst hn
        refine JC.condp rfl (fun h5 => ?_) (fun h5 => ?_)
        · have hsub := sub_left l m known h1 (by omega) (by omega)
          refine JC.seq fun K13 hK13 => ?_
          refine JC.drawM [] (by kernel_rfl) ?_
          refine D.take 0 (y_move rfl rfl) rfl rfl rfl rfl (by kernel_rfl) (by kernel_rfl) (by kernel_rfl) (PQ.next (PQ.next PQ.body)) ?_
          refine D.take 1 (y_move rfl rfl) rfl rfl rfl rfl (by kernel_rfl) (by kernel_rfl) (by kernel_rfl) (PQ.next (PQ.next PQ.body)) ?_
          refine D.take 3 (y_move rfl rfl) rfl rfl rfl rfl (by kernel_rfl) (by kernel_rfl) (by kernel_rfl) (PQ.next (PQ.next PQ.body)) ?_
          refine D.take 4 (y_move rfl rfl) rfl rfl rfl rfl (by kernel_rfl) (by kernel_rfl) (by kernel_rfl) (PQ.next (PQ.next PQ.body)) ?_
          refine D.take 6 (y_move rfl rfl) rfl rfl rfl rfl (by kernel_rfl) (by kernel_rfl) (by kernel_rfl) (PQ.next (PQ.next PQ.body)) ?_
          refine D.take 7 (y_move rfl rfl) rfl rfl rfl rfl (by kernel_rfl) (by kernel_rfl) (by kernel_rfl) (PQ.next (PQ.next PQ.body)) ?_
          refine D.take 2 (y_cuttoN (split l.length) rfl Tryd.underlying22 Tb.sz30 rfl rfl rfl (by omega)) rfl rfl rfl rfl (by kernel_rfl) (by kernel_rfl) (by kernel_rfl) (PQ.next (PQ.next PQ.body)) ?_
          refine D.take 8 (y_cutfromN (split l.length) rfl Tryd.underlying22 Tb.sz30 rfl rfl rfl (by omega)) rfl rfl rfl rfl (by kernel_rfl) (by kernel_rfl) (by kernel_rfl) (PQ.next (PQ.next PQ.body)) ?_
          refine D.ofJ 5 (by kernel_rfl) rfl fun KhK15 hK15 => ?_
          refine J.callR (Cin := []) rfl rfl rfl rfl Tb.cl108 rfl rfl (ih (l.take (split l.length)) m known A _ _ _ (by omega) h1 (by omega) (by rw [List.length_take]; omega) (by omega) (by omega) rfl _ (fun w h => (hA w h.1).htake _)) ?_
          rintro ⟨B, j⟩ ⟨hj, hjN⟩
          refine J.nil ?_
          refine hK15 _ _ _ (fun w hs => hs.mask [false]) ?_
          refine D.ofJ 9 (by kernel_rfl) rfl fun KhK17 hK17 => ?_
          refine J.callv rfl rfl rfl rfl Tb.cl86 rfl (rroot_spec l.length (l.drop (split l.length)) _ _ _ (by rw [List.length_drop]; omega) (by rw [List.length_drop]) (by omega) (by omega) _ (fun w h => (hA w h.1).hdrop _ _ hk (by omega))) ?_
          refine J.nil ?_
          refine hK17 _ _ _ (fun w hs => hs.mask [false]) ?_
          refine D.ofJ 10 (by kernel_rfl) rfl fun KhK18 hK18 => ?_
          refine J.bs1 rfl rfl rfl rfl rfl Tryd.underlying22 Tb.zz30 Tb.sz30 rfl (by decide) rfl (hcl _) fun g38 => ?_
          refine J.nil ?_
          refine hK18 _ _ _ (fun w hs => hs.mask [false, false]) ?_
          refine D.ofJ 11 (by kernel_rfl) rfl fun KhK19 hK19 => ?_
          refine J.append 1 rfl rfl rfl rfl rfl rfl Tryd.underlying22 Tb.zz30 Tb.sz30 Tb.by30 rfl (by decide) rfl (by rw [hcl]) (fun w hs => .inr ⟨rfl, At.box (hs.get (i := 0) rfl)⟩) (hc1 _) (by omega) (by decide) (show _ = (sub (l.take (split l.length)) m known ++ [root (l.drop (split l.length))]).length by simp) (show _ = hcs (sub (l.take (split l.length)) m known ++ [root (l.drop (split l.length))]) by rw [hcs_append, hcs_one]) fun A k hAx hkx => ?_
          refine J.drop ?_
          refine J.nil ?_
          refine hK19 _ _ _ (fun w hs => hs.mask [false]) ?_
          refine D.take 12 (y_assign rfl rfl) rfl rfl rfl rfl (by kernel_rfl) (by kernel_rfl) (by kernel_rfl) (PQ.next (PQ.next PQ.body)) ?_
          refine D.done (by kernel_rfl) ?_
          refine JQ.next hK13 ?_
          refine JC.ret ?_
          refine JQ.then_ret ?_
          exact ret1 rfl (r_tmp rfl) fun w hs => by rw [hsub]; exact Post.of_st hs (A, k) ⟨hkx, by rw [List.length_append]; simp; omega⟩ (List.Sublist.refl _) fun _ _ => trivial
        · have hsub := sub_right l m known (by omega) (by omega)
          refine JC.skip ?_
          refine JQ.next hK11 ?_
          refine JC.seq fun K21 hK21 => ?_
          refine JC.drawM [] (by kernel_rfl) ?_
          refine D.take 0 (y_move rfl rfl) rfl rfl rfl rfl (by kernel_rfl) (by kernel_rfl) (by kernel_rfl) (PQ.next PQ.body) ?_
          refine D.take 1 (y_move rfl rfl) rfl rfl rfl rfl (by kernel_rfl) (by kernel_rfl) (by kernel_rfl) (PQ.next PQ.body) ?_
          refine D.take 3 (y_move rfl rfl) rfl rfl rfl rfl (by kernel_rfl) (by kernel_rfl) (by kernel_rfl) (PQ.next PQ.body) ?_
          refine D.take 4 (y_move rfl rfl) rfl rfl rfl rfl (by kernel_rfl) (by kernel_rfl) (by kernel_rfl) (PQ.next PQ.body) ?_
          refine D.take 5 (y_sub64 rfl rfl rfl (by omega)) rfl rfl rfl rfl (by kernel_rfl) (by kernel_rfl) (by kernel_rfl) (PQ.next PQ.body) ?_
          refine D.take 7 (y_move rfl rfl) rfl rfl rfl rfl (by kernel_rfl) (by kernel_rfl) (by kernel_rfl) (PQ.next PQ.body) ?_
          refine D.take 8 (y_move rfl rfl) rfl rfl rfl rfl (by kernel_rfl) (by kernel_rfl) (by kernel_rfl) (PQ.next PQ.body) ?_
          refine D.take 2 (y_cutfromN (split l.length) rfl Tryd.underlying22 Tb.sz30 rfl rfl rfl (by omega)) rfl rfl rfl rfl (by kernel_rfl) (by kernel_rfl) (by kernel_rfl) (PQ.next PQ.body) ?_
          refine D.take 9 (y_cuttoN (split l.length) rfl Tryd.underlying22 Tb.sz30 rfl rfl rfl (by omega)) rfl rfl rfl rfl (by kernel_rfl) (by kernel_rfl) (by kernel_rfl) (PQ.next PQ.body) ?_
          refine D.ofJ 6 (by kernel_rfl) rfl fun KhK23 hK23 => ?_
          refine J.callR (Cin := []) rfl rfl rfl rfl Tb.cl108 rfl rfl (ih (l.drop (split l.length)) (m - split l.length) false _ _ _ _ (by omega) (by omega) (by omega) (by rw [List.length_drop]) (by omega) (by omega) (by omega) _ (fun w h => (hA w h.1).hdrop _ _ hk (by omega))) ?_
          rintro ⟨B, j⟩ ⟨hj, hjN⟩
          refine J.nil ?_
          refine hK23 _ _ _ (fun w hs => hs.mask [false]) ?_
          refine D.ofJ 10 (by kernel_rfl) rfl fun KhK25 hK25 => ?_
          refine J.callv rfl rfl rfl rfl Tb.cl86 rfl (rroot_spec l.length (l.take (split l.length)) A _ _ (by rw [List.length_take]; omega) (by rw [List.length_take]; omega) (by omega) (by omega) _ (fun w h => (hA w h.1).htake _)) ?_
          refine J.nil ?_
          refine hK25 _ _ _ (fun w hs => hs.mask [false]) ?_
          refine D.ofJ 11 (by kernel_rfl) rfl fun KhK26 hK26 => ?_
          refine J.bs1 rfl rfl rfl rfl rfl Tryd.underlying22 Tb.zz30 Tb.sz30 rfl (by decide) rfl (hcl _) fun g51 => ?_
          refine J.nil ?_
          refine hK26 _ _ _ (fun w hs => hs.mask [false, false]) ?_
          refine D.ofJ 12 (by kernel_rfl) rfl fun KhK27 hK27 => ?_
          refine J.append 1 rfl rfl rfl rfl rfl rfl Tryd.underlying22 Tb.zz30 Tb.sz30 Tb.by30 rfl (by decide) rfl (by rw [hcl]) (fun w hs => .inr ⟨rfl, At.box (hs.get (i := 0) rfl)⟩) (hc1 _) (by omega) (by decide) (show _ = (sub (l.drop (split l.length)) (m - split l.length) false ++ [root (l.take (split l.length))]).length by simp) (show _ = hcs (sub (l.drop (split l.length)) (m - split l.length) false ++ [root (l.take (split l.length))]) by rw [hcs_append, hcs_one]) fun A k hAx hkx => ?_
          refine J.drop ?_
          refine J.nil ?_
          refine hK27 _ _ _ (fun w hs => hs.mask [false]) ?_
          refine D.take 13 (y_assign rfl rfl) rfl rfl rfl rfl (by kernel_rfl) (by kernel_rfl) (by kernel_rfl) (PQ.next PQ.body) ?_
          refine D.done (by kernel_rfl) ?_
          refine JQ.next hK21 ?_
          refine JC.ret ?_
          exact ret1 rfl (r_tmp rfl) fun w hs => by rw [hsub]; exact Post.of_st hs (A, k) ⟨hkx, by rw [List.length_append]; simp; omega⟩ (List.Sublist.refl _) fun _ _ => trivial
theorem rproof_fn (l : List H) (m : Int) (A : Option Addr) (n k : Nat) (hn : l.length = n) (hk : n ≤ k) (hM : n ≤ 100000) (hA : ∀ w, F w → Sl w A (hcs l)) :
    FnSpec Tryd.prog Gl 25 [.slice A n k, .int .i64 m] [] F (ι := Option Addr × Nat) (fun i => (prf l m).length ≤ i.2 ∧ (prf l m).length ≤ n) (fun i => .tuple #[.slice i.1 (prf l m).length i.2, .int .i64 (prfE l m)]) (OwnL (prf l m)) (fun _ _ => True) := by
  have hnil : m ≤ 0 ∨ (l.length : Int) < m → prf l m = [] := fun h => if_pos h
  have hsub : ¬ (m ≤ 0 ∨ (l.length : Int) < m) → prf l m = sub l m.toNat true := fun h => if_neg h
  have hE2 : m < 0 ∨ (l.length : Int) < m → prfE l m = 2 := fun h => if_pos h
  have hE0 : ¬ (m < 0 ∨ (l.length : Int) < m) → prfE l m = 0 := fun h => if_neg h
  refine FnSpec.intro Tryd.func25 rfl Tryd.ntmps25 rfl fun X M w => ?_
  refine JC.seq fun K1 hK1 => ?_
  refine JC.region ?_
  refine J.yl (y_assign rfl rfl) rfl rfl rfl ?_
  refine J.yl (y_assign rfl rfl) rfl rfl rfl ?_
  refine J.nil ?_
  refine JQ.next hK1 ?_
  refine JC.seq fun K2 hK2 => ?_
  refine JC.seq fun K3 hK3 => ?_
  refine JC.region ?_
  refine J.yl (y_move rfl rfl) rfl rfl rfl ?_
  refine J.ylp (y_lt rfl rfl rfl) rfl rfl rfl (fun h1 => ?_) (fun h1 => ?_)
  · refine J.yl (y_move rfl rfl) rfl rfl rfl ?_
    refine J.gno (b := true) rfl rfl rfl rfl rfl rfl ?_
    refine J.gno (b := true) rfl rfl rfl rfl rfl rfl ?_
    refine J.gno (b := true) rfl rfl rfl rfl rfl rfl ?_
    refine J.gno (b := true) rfl rfl rfl rfl rfl rfl ?_
    refine J.yl (y_pick rfl rfl (fun _ => rfl) (fun h => by cases h)) rfl rfl rfl ?_
    refine J.nil ?_
    refine JQ.next hK3 ?_
    refine JC.yes rfl ?_
    refine JC.seq fun K4 hK4 => ?_
    refine JC.region ?_
    refine J.yl (y_assign rfl rfl) rfl rfl rfl ?_
    refine J.yl (y_assign rfl rfl) rfl rfl rfl ?_
    refine J.nil ?_
    refine JQ.next hK4 ?_
    refine JC.ret ?_
    refine JQ.then_ret ?_
    refine JQ.st ?_ (fun w hs => hs.nilrow 30 32)
    exact ret2 rfl (r_tmp rfl) (r_tmp rfl) fun w hs => by rw [hnil (by omega), hE2 (by omega)]; exact Post.of_st hs (none, 0) ⟨Nat.le_refl _, Nat.zero_le _⟩ (List.Sublist.refl _) fun _ _ => trivial
  · refine J.yl (y_move rfl rfl) rfl rfl rfl ?_
    refine J.gyes (y_move rfl rfl) rfl rfl rfl rfl rfl rfl ?_
    refine J.gyes (y_move rfl rfl) rfl rfl rfl rfl rfl rfl ?_
    refine J.gyes (y_len rfl Tryd.underlying22 rfl) rfl rfl rfl rfl rfl rfl ?_
    refine J.gyes (y_gt rfl rfl rfl) rfl rfl rfl rfl rfl rfl ?_
    refine J.yl (y_pick rfl rfl (fun h => by cases h) (fun _ => rfl)) rfl rfl rfl ?_
    refine J.nil ?_
    refine JQ.next hK3 ?_
    refine JC.condp rfl (fun h2 => ?_) (fun h2 => ?_)
    · refine JC.seq fun K5 hK5 => ?_
      refine JC.region ?_
      refine J.yl (y_assign rfl rfl) rfl rfl rfl ?_
      refine J.yl (y_assign rfl rfl) rfl rfl rfl ?_
      refine J.nil ?_
      refine JQ.next hK5 ?_
      refine JC.ret ?_
      refine JQ.then_ret ?_
      refine JQ.st ?_ (fun w hs => hs.nilrow 30 32)
      exact ret2 rfl (r_tmp rfl) (r_tmp rfl) fun w hs => by rw [hnil (by omega), hE2 (by omega)]; exact Post.of_st hs (none, 0) ⟨Nat.le_refl _, Nat.zero_le _⟩ (List.Sublist.refl _) fun _ _ => trivial
    · refine JC.skip ?_
      refine JQ.next hK2 ?_
      refine JC.seq fun K6 hK6 => ?_
      refine JC.seq fun K7 hK7 => ?_
      refine JC.region ?_
      refine J.yl (y_move rfl rfl) rfl rfl rfl ?_
      refine J.yl (y_eq rfl rfl rfl) rfl rfl rfl ?_
      refine J.nil ?_
      refine JQ.next hK7 ?_
      refine JC.condp rfl (fun h3 => ?_) (fun h3 => ?_)
      · refine JC.seq fun K8 hK8 => ?_
        refine JC.region ?_
        refine J.yl (y_assign rfl rfl) rfl rfl rfl ?_
        refine J.yl (y_assign rfl rfl) rfl rfl rfl ?_
        refine J.nil ?_
        refine JQ.next hK8 ?_
        refine JC.ret ?_
        refine JQ.then_ret ?_
        refine JQ.st ?_ (fun w hs => hs.nilrow 30 32)
        exact ret2 rfl (r_tmp rfl) (r_tmp rfl) fun w hs => by rw [hnil (by omega), hE0 (by omega)]; exact Post.of_st hs (none, 0) ⟨Nat.le_refl _, Nat.zero_le _⟩ (List.Sublist.refl _) fun _ _ => trivial
      · refine JC.skip ?_
        refine JQ.next hK6 ?_
        refine JC.seq fun K9 hK9 => ?_
        refine JC.region ?_
        refine J.yl (y_move rfl rfl) rfl rfl rfl ?_
        refine J.yl (y_move rfl rfl) rfl rfl rfl ?_
        refine J.callR (Cin := []) rfl rfl rfl rfl Tb.cl108 rfl rfl (rsub_fn n l m.toNat true A n k m (Nat.le_refl _) (by omega) (by omega) hn hk hM (by omega) _ (fun w h => hA w h.1)) ?_
        rintro ⟨B, j⟩ ⟨hj, hjN⟩
        refine J.yl (y_assign rfl rfl) rfl rfl rfl ?_
        refine J.yl (y_assign rfl rfl) rfl rfl rfl ?_
        refine J.nil ?_
        refine JQ.next hK9 ?_
        refine JC.ret ?_
        exact ret2 rfl (r_tmp rfl) (r_tmp rfl) fun w hs => by rw [hsub (by omega), hE0 (by omega)]; exact Post.of_st hs (B, j) ⟨hj, hjN⟩ (List.Sublist.refl _) fun _ _ => trivial
end Go.Proofs.YtjkfeonbioccmaaDoor
namespace Go.Proofs.YtjkfeonbioccmaaDoor
open Go Go.Sx Go.RowKit
set_option linter.unusedVariables false
set_option linter.unusedSimpArgs false
set_option maxRecDepth 100000
set_option maxHeartbeats 4000000
variable {Gl F : World → Prop}

/-- A variable that holds an own list of hashes. -/
abbrev VarL (g : Nat) (l : List H) : Option Addr × Nat → List Chunk := fun i => [.box g 22 [.slice i.1 l.length i.2], .row (.slice i.1 l.length i.2) 30 32 l.length (hcs l)]
theorem psub_fn (g6 g7 : Nat) : ∀ (N : Nat) (l : List H) (m : Nat) (known : Bool) (A : Option Addr) (n k : Nat) (a : Int), n ≤ N → 1 ≤ m → m ≤ n → l.length = n → n ≤ k → n ≤ 100000 → a = m → ∀ (ol : List H) (B : Option Addr × Nat), ol.length + n ≤ 1000000 → ∀ F : World → Prop, (∀ w, F w → w.cell? ⟨g7, 0, none⟩ = some (.func (.func 106) #[] #[.pointer (some ⟨g6, 0, none⟩), .pointer (some ⟨g7, 0, none⟩)]) ∧ Sl w A (hcs l)) →
    FnSpec Tryd.prog Gs 106 [.slice A n k, .int .i64 a, .bool known, .pointer (some ⟨g6, 0, none⟩), .pointer (some ⟨g7, 0, none⟩)] (VarL g6 ol B) F (ι := Option Addr × Nat) (fun i => (ol ++ sub l m known).length ≤ i.2 ∨ ol ++ sub l m known = ol ∧ i = B) (fun _ => .tuple #[]) (VarL g6 (ol ++ sub l m known)) (fun _ _ => True) := by
  intro N
  induction N with
  | zero => intro l m known A n k a h0 h1 h2; omega
  | succ N ih =>
    intro l m known A n k a h0 h1 h2 hn hk hM ha ol B hol F hF
    subst ha
    obtain ⟨B, j⟩ := B
    refine FnSpec.intro Tryd.func106 rfl Tryd.ntmps106 rfl fun X M w => ?_
    refine JC.seq fun K1 hK1 => ?_
    refine JC.seq fun K2 hK2 => ?_
    refine JC.region ?_
    refine J.yl (y_move rfl rfl) rfl rfl rfl ?_
    refine J.yl (y_move rfl rfl) rfl rfl rfl ?_
    refine J.yl (y_len rfl Tryd.underlying22 rfl) rfl rfl rfl ?_
    refine J.yl (y_eq rfl rfl rfl) rfl rfl rfl ?_
    refine J.nil ?_
    refine JQ.next hK2 ?_
    refine JC.condp rfl (fun hm => ?_) (fun hm => ?_)
    · have hsub := sub_all l m known (by omega)
      refine JC.seq fun K3 hK3 => ?_
      refine JC.seq fun K4 hK4 => ?_
      refine JC.region ?_
      refine J.yl (y_move rfl rfl) rfl rfl rfl ?_
      refine J.yl (y_not rfl rfl) rfl rfl rfl ?_
      refine J.nil ?_
      refine JQ.next hK4 ?_
      refine JC.cond rfl (fun hkn => ?_) (fun hkn => ?_)
      · obtain rfl : known = false := by simpa using hkn
        have hsub : sub l m false = [root l] := hsub
        refine JC.drawM [true, false] (by kernel_rfl) ?_
        refine D.take 0 (y_lb 0 rfl Tb.ag22 rfl rfl rfl) rfl rfl rfl rfl (by kernel_rfl) (by kernel_rfl) (by kernel_rfl) (PQ.next (PQ.next PQ.body)) ?_
        refine D.take 1 (y_move rfl rfl) rfl rfl rfl rfl (by kernel_rfl) (by kernel_rfl) (by kernel_rfl) (PQ.next (PQ.next PQ.body)) ?_
        refine D.ofJ 2 (by kernel_rfl) rfl fun KhK6 hK6 => ?_
        refine J.callv rfl rfl rfl rfl Tb.cl30 rfl (root_spec l A n k hn hk (by omega) (fun w h => (hF w h.1).2)) ?_
        refine J.nil ?_
        refine hK6 _ _ _ (fun w hs => hs.mask [true, false]) ?_
        refine D.ofJ 3 (by kernel_rfl) rfl fun KhK7 hK7 => ?_
        refine J.bs1 rfl rfl rfl rfl rfl Tryd.underlying22 Tb.zz30 Tb.sz30 rfl (by decide) rfl (hcl _) fun g18 => ?_
        refine J.nil ?_
        refine hK7 _ _ _ (fun w hs => hs.mask [false, true, false]) ?_
        refine D.ofJ 4 (by kernel_rfl) rfl fun KhK8 hK8 => ?_
        refine J.append 2 rfl rfl rfl rfl rfl rfl Tryd.underlying22 Tb.zz30 Tb.sz30 Tb.by30 rfl (by decide) rfl (by rw [hcl]) (fun w hs => .inr ⟨rfl, At.box (hs.get (i := 0) rfl)⟩) (hc1 _) (by omega) (by decide) (show _ = (ol ++ [root l]).length by simp) (show _ = hcs (ol ++ [root l]) by rw [hcs_append, hcs_one]) fun A k hAx hkx => ?_
        refine J.drop ?_
        refine J.nil ?_
        refine hK8 _ _ _ (fun w hs => hs.mask [true, false]) ?_
        refine D.store1 5 0 (by kernel_rfl) rfl (by kernel_rfl) (by kernel_rfl) rfl rfl rfl rfl rfl rfl rfl Tb.sz22  (by first | (simp; done) | exact Nat.le_of_ble_eq_true rfl) rfl ?_
        refine JQ.next hK3 ?_
        refine JC.ret ?_
        refine JQ.then_ret ?_
        exact ret0 rfl fun w hs => by
          rw [show ol ++ sub l m false = ol ++ [root l] from by rw [hsub]]
          exact Post.of_st hs (A, k) (.inl hkx) (List.Sublist.refl _) fun _ _ => trivial
      · refine JC.skip ?_
        refine JQ.next hK3 ?_
        refine JC.ret ?_
        refine JQ.then_ret ?_
        obtain rfl : known = true := by simpa using hkn
        have hsub : ol ++ sub l m true = ol := by
          have : sub l m true = [] := hsub
          rw [this, List.append_nil]
        exact ret0 rfl fun w hs => by rw [hsub]; exact Post.of_st hs (B, j) (.inr ⟨rfl, rfl⟩) (List.Sublist.refl _) fun _ _ => trivial
    · have h2l : 2 ≤ l.length := by omega
      have hs := split_spec h2l
      refine JC.skip ?_
      refine JQ.next hK1 ?_
      refine JC.seq fun K10 hK10 => ?_
      refine JC.region ?_
      refine J.yl (y_move rfl rfl) rfl rfl rfl ?_
      refine J.yl (y_len rfl Tryd.underlying22 rfl) rfl rfl rfl ?_
      refine J.callv rfl rfl rfl rfl Tb.cl107 rfl (split_fn l.length _ (by omega) (by omega)) ?_
      refine J.yl (y_assign rfl rfl) rfl rfl rfl ?_
      refine J.nil ?_
      refine JQ.next hK10 ?_
      refine JC.seq fun K11 hK11 => ?_
      refine JC.seq fun K12 hK12 => ?_
      refine JC.region ?_
      refine J.yl (y_move rfl rfl) rfl rfl rfl ?_
      refine J.yl (y_move rfl rfl) rfl rfl rfl ?_
      refine J.yl (y_le rfl rfl rfl) rfl rfl rfl ?_
      refine J.nil ?_
      refine JQ.next hK12 ?_
      subst hn
      refine JC.condp rfl (fun hk2 => ?_) (fun hk2 => ?_)
      · have hsub := sub_left l m known h1 (by omega) (by omega)
        refine JC.seq fun K13 hK13 => ?_
        refine JC.drawM [false, false] (by kernel_rfl) ?_
        refine D.take 1 (y_move rfl rfl) rfl rfl rfl rfl (by kernel_rfl) (by kernel_rfl) (by kernel_rfl) (PQ.next (PQ.next PQ.body)) ?_
        refine D.take 2 (y_move rfl rfl) rfl rfl rfl rfl (by kernel_rfl) (by kernel_rfl) (by kernel_rfl) (PQ.next (PQ.next PQ.body)) ?_
        refine D.take 4 (y_move rfl rfl) rfl rfl rfl rfl (by kernel_rfl) (by kernel_rfl) (by kernel_rfl) (PQ.next (PQ.next PQ.body)) ?_
        refine D.take 5 (y_move rfl rfl) rfl rfl rfl rfl (by kernel_rfl) (by kernel_rfl) (by kernel_rfl) (PQ.next (PQ.next PQ.body)) ?_
        refine D.take 0 (y_load1 rfl Tb.ag155 rfl (fun w hs => (hF w hs.fact).1)) rfl rfl rfl rfl (by kernel_rfl) (by kernel_rfl) (by kernel_rfl) (PQ.next (PQ.next PQ.body)) ?_
        refine D.take 3 (y_cuttoN (split l.length) rfl Tryd.underlying22 Tb.sz30 rfl rfl rfl (by omega)) rfl rfl rfl rfl (by kernel_rfl) (by kernel_rfl) (by kernel_rfl) (PQ.next (PQ.next PQ.body)) ?_
        refine D.ofJ 6 (by kernel_rfl) rfl fun KhK15 hK15 => ?_
        refine J.callcR (Cin := [_, _]) rfl rfl rfl rfl rfl Tb.cl106 rfl rfl (ih (l.take (split l.length)) m known A _ _ _ (by omega) h1 (by omega) (by rw [List.length_take]; omega) (by omega) (by omega) rfl ol (B, j) (by omega) _ (fun w h => ⟨(hF w h.1).1, (hF w h.1).2.htake _⟩)) ?_
        rintro ⟨B2, j2⟩ hB2
        refine J.nil ?_
        refine hK15 _ _ _ (fun w hs => hs.mask [false, false]) ?_
        refine D.done (by kernel_rfl) ?_
        refine JQ.next hK13 ?_
        refine JC.seq fun K16 hK16 => ?_
        refine JC.drawM [true, false] (by kernel_rfl) ?_
        refine D.take 0 (y_lb 0 rfl Tb.ag22 rfl rfl rfl) rfl rfl rfl rfl (by kernel_rfl) (by kernel_rfl) (by kernel_rfl) (PQ.next (PQ.next PQ.body)) ?_
        refine D.take 1 (y_move rfl rfl) rfl rfl rfl rfl (by kernel_rfl) (by kernel_rfl) (by kernel_rfl) (PQ.next (PQ.next PQ.body)) ?_
        refine D.take 2 (y_move rfl rfl) rfl rfl rfl rfl (by kernel_rfl) (by kernel_rfl) (by kernel_rfl) (PQ.next (PQ.next PQ.body)) ?_
        have hsl := sub_len _ (l.take (split l.length)) m known (Nat.le_refl _) h1 (by rw [List.length_take]; omega)
        rw [List.length_take] at hsl
        generalize hol : ol ++ sub (l.take (split l.length)) m known = ol2
        have hol2 : ol2.length ≤ ol.length + l.length := by rw [← hol, List.length_append]; omega
        have hfin : ol ++ sub l m known = ol2 ++ [root (l.drop (split l.length))] := by rw [hsub, ← hol, List.append_assoc]
        refine D.take 3 (y_cutfromN (split l.length) rfl Tryd.underlying22 Tb.sz30 rfl rfl rfl (by omega)) rfl rfl rfl rfl (by kernel_rfl) (by kernel_rfl) (by kernel_rfl) (PQ.next (PQ.next PQ.body)) ?_
        refine D.ofJ 4 (by kernel_rfl) rfl fun KhK18 hK18 => ?_
        refine J.callv rfl rfl rfl rfl Tb.cl30 rfl (root_spec (l.drop (split l.length)) _ _ _ (by rw [List.length_drop]) (by omega) (by omega) (fun w h => (hF w h.1).2.hdrop _ _ hk (by omega))) ?_
        refine J.nil ?_
        refine hK18 _ _ _ (fun w hs => hs.mask [true, false]) ?_
        refine D.ofJ 5 (by kernel_rfl) rfl fun KhK19 hK19 => ?_
        refine J.bs1 rfl rfl rfl rfl rfl Tryd.underlying22 Tb.zz30 Tb.sz30 rfl (by decide) rfl (hcl _) fun g38 => ?_
        refine J.nil ?_
        refine hK19 _ _ _ (fun w hs => hs.mask [false, true, false]) ?_
        refine D.ofJ 6 (by kernel_rfl) rfl fun KhK20 hK20 => ?_
        refine J.append 2 rfl rfl rfl rfl rfl rfl Tryd.underlying22 Tb.zz30 Tb.sz30 Tb.by30 rfl (by decide) rfl (by rw [hcl]) (fun w hs => .inr ⟨rfl, At.box (hs.get (i := 0) rfl)⟩) (hc1 _) (by omega) (by decide) (show _ = (ol2 ++ [root (l.drop (split l.length))]).length by simp) (show _ = hcs (ol2 ++ [root (l.drop (split l.length))]) by rw [hcs_append, hcs_one]) fun A k hAx hkx => ?_
        refine J.drop ?_
        refine J.nil ?_
        refine hK20 _ _ _ (fun w hs => hs.mask [true, false]) ?_
        refine D.store1 7 0 (by kernel_rfl) rfl (by kernel_rfl) (by kernel_rfl) rfl rfl rfl rfl rfl rfl rfl Tb.sz22  (by first | (simp; done) | exact Nat.le_of_ble_eq_true rfl) rfl ?_
        refine JQ.next hK16 ?_
        refine JC.ret ?_
        refine JQ.then_ret ?_
        exact ret0 rfl fun w hs => by rw [hfin]; exact Post.of_st hs (_, _) (.inl hkx) (List.Sublist.refl _) fun _ _ => trivial
      · have hsub := sub_right l m known (by omega) (by omega)
        refine JC.skip ?_
        refine JQ.next hK11 ?_
        refine JC.seq fun K22 hK22 => ?_
        refine JC.drawM [false, false] (by kernel_rfl) ?_
        refine D.take 1 (y_move rfl rfl) rfl rfl rfl rfl (by kernel_rfl) (by kernel_rfl) (by kernel_rfl) (PQ.next PQ.body) ?_
        refine D.take 2 (y_move rfl rfl) rfl rfl rfl rfl (by kernel_rfl) (by kernel_rfl) (by kernel_rfl) (PQ.next PQ.body) ?_
        refine D.take 4 (y_move rfl rfl) rfl rfl rfl rfl (by kernel_rfl) (by kernel_rfl) (by kernel_rfl) (PQ.next PQ.body) ?_
        refine D.take 5 (y_move rfl rfl) rfl rfl rfl rfl (by kernel_rfl) (by kernel_rfl) (by kernel_rfl) (PQ.next PQ.body) ?_
        refine D.take 6 (y_sub64 rfl rfl rfl (by omega)) rfl rfl rfl rfl (by kernel_rfl) (by kernel_rfl) (by kernel_rfl) (PQ.next PQ.body) ?_
        refine D.take 0 (y_load1 rfl Tb.ag155 rfl (fun w hs => (hF w hs.fact).1)) rfl rfl rfl rfl (by kernel_rfl) (by kernel_rfl) (by kernel_rfl) (PQ.next PQ.body) ?_
        refine D.take 3 (y_cutfromN (split l.length) rfl Tryd.underlying22 Tb.sz30 rfl rfl rfl (by omega)) rfl rfl rfl rfl (by kernel_rfl) (by kernel_rfl) (by kernel_rfl) (PQ.next PQ.body) ?_
        refine D.ofJ 7 (by kernel_rfl) rfl fun KhK24 hK24 => ?_
        refine J.callcR (Cin := [_, _]) rfl rfl rfl rfl rfl Tb.cl106 rfl rfl (ih (l.drop (split l.length)) (m - split l.length) false _ _ _ _ (by omega) (by omega) (by omega) (by rw [List.length_drop]) (by omega) (by omega) (by omega) ol (B, j) (by omega) _ (fun w h => ⟨(hF w h.1).1, (hF w h.1).2.hdrop _ _ hk (by omega)⟩)) ?_
        rintro ⟨B2, j2⟩ hB2
        refine J.nil ?_
        refine hK24 _ _ _ (fun w hs => hs.mask [false, false]) ?_
        refine D.done (by kernel_rfl) ?_
        refine JQ.next hK22 ?_
        refine JC.drawM [true, false] (by kernel_rfl) ?_
        refine D.take 0 (y_lb 0 rfl Tb.ag22 rfl rfl rfl) rfl rfl rfl rfl (by kernel_rfl) (by kernel_rfl) (by kernel_rfl) PQ.body ?_
        refine D.take 1 (y_move rfl rfl) rfl rfl rfl rfl (by kernel_rfl) (by kernel_rfl) (by kernel_rfl) PQ.body ?_
        refine D.take 2 (y_move rfl rfl) rfl rfl rfl rfl (by kernel_rfl) (by kernel_rfl) (by kernel_rfl) PQ.body ?_
        have hsl := sub_len _ (l.drop (split l.length)) (m - split l.length) false (Nat.le_refl _) (by omega) (by rw [List.length_drop]; omega)
        rw [List.length_drop] at hsl
        generalize hol : ol ++ sub (l.drop (split l.length)) (m - split l.length) false = ol2
        have hol2 : ol2.length ≤ ol.length + l.length := by rw [← hol, List.length_append]; omega
        have hfin : ol ++ sub l m known = ol2 ++ [root (l.take (split l.length))] := by rw [hsub, ← hol, List.append_assoc]
        refine D.take 3 (y_cuttoN (split l.length) rfl Tryd.underlying22 Tb.sz30 rfl rfl rfl (by omega)) rfl rfl rfl rfl (by kernel_rfl) (by kernel_rfl) (by kernel_rfl) PQ.body ?_
        refine D.ofJ 4 (by kernel_rfl) rfl fun KhK26 hK26 => ?_
        refine J.callv rfl rfl rfl rfl Tb.cl30 rfl (root_spec (l.take (split l.length)) A _ _ (by rw [List.length_take]; omega) (by omega) (by omega) (fun w h => (hF w h.1).2.htake _)) ?_
        refine J.nil ?_
        refine hK26 _ _ _ (fun w hs => hs.mask [true, false]) ?_
        refine D.ofJ 5 (by kernel_rfl) rfl fun KhK27 hK27 => ?_
        refine J.bs1 rfl rfl rfl rfl rfl Tryd.underlying22 Tb.zz30 Tb.sz30 rfl (by decide) rfl (hcl _) fun g53 => ?_
        refine J.nil ?_
        refine hK27 _ _ _ (fun w hs => hs.mask [false, true, false]) ?_
        refine D.ofJ 6 (by kernel_rfl) rfl fun KhK28 hK28 => ?_
        refine J.append 2 rfl rfl rfl rfl rfl rfl Tryd.underlying22 Tb.zz30 Tb.sz30 Tb.by30 rfl (by decide) rfl (by rw [hcl]) (fun w hs => .inr ⟨rfl, At.box (hs.get (i := 0) rfl)⟩) (hc1 _) (by omega) (by decide) (show _ = (ol2 ++ [root (l.take (split l.length))]).length by simp) (show _ = hcs (ol2 ++ [root (l.take (split l.length))]) by rw [hcs_append, hcs_one]) fun A k hAx hkx => ?_
        refine J.drop ?_
        refine J.nil ?_
        refine hK28 _ _ _ (fun w hs => hs.mask [true, false]) ?_
        refine D.store1 7 0 (by kernel_rfl) rfl (by kernel_rfl) (by kernel_rfl) rfl rfl rfl rfl rfl rfl rfl Tb.sz22  (by first | (simp; done) | exact Nat.le_of_ble_eq_true rfl) rfl ?_
        exact ret_end (ret0 rfl fun w hs => by rw [hfin]; exact Post.of_st hs (_, _) (.inl hkx) (List.Sublist.refl _) fun _ _ => trivial)
theorem proof_fn (l : List H) (m : Int) (A : Option Addr) (n k : Nat) (hn : l.length = n) (hk : n ≤ k) (hM : n ≤ 100000) (hA : ∀ w, F w → Sl w A (hcs l)) :
    FnSpec Tryd.prog Gs 24 [.slice A n k, .int .i64 m] [] F (ι := Option Addr × Nat) (fun i => (prf l m).length ≤ i.2) (fun i => .tuple #[.slice i.1 (prf l m).length i.2, .int .i64 (prfE l m)]) (OwnL (prf l m)) (fun _ _ => True) := by
  have hnil : m ≤ 0 ∨ (l.length : Int) ≤ m → prf l m = [] := fun h => by
    by_cases h2 : m ≤ 0 ∨ (l.length : Int) < m
    · exact if_pos h2
    · rw [prf, if_neg h2, sub_all l m.toNat true (by omega)]; rfl
  have hsub : ¬ (m ≤ 0 ∨ (l.length : Int) < m) → prf l m = sub l m.toNat true := fun h => if_neg h
  have hE2 : m < 0 ∨ (l.length : Int) < m → prfE l m = 2 := fun h => if_pos h
  have hE0 : ¬ (m < 0 ∨ (l.length : Int) < m) → prfE l m = 0 := fun h => if_neg h
  refine FnSpec.intro Tryd.func24 rfl Tryd.ntmps24 rfl fun X M w => ?_
  refine JC.seq fun K1 hK1 => ?_
  refine JC.region ?_
  refine J.yl (y_assign rfl rfl) rfl rfl rfl ?_
  refine J.yl (y_assign rfl rfl) rfl rfl rfl ?_
  refine J.nil ?_
  refine JQ.next hK1 ?_
  refine JC.seq fun K2 hK2 => ?_
  refine JC.block ?_
  refine JC.seq fun K3 hK3 => ?_
  refine JC.region ?_
  refine J.yl (y_move rfl rfl) rfl rfl rfl ?_
  refine J.ylp (y_lt rfl rfl rfl) rfl rfl rfl (fun h1 => ?_) (fun h1 => ?_)
  · refine J.yl (y_move rfl rfl) rfl rfl rfl ?_
    refine J.gno (b := true) rfl rfl rfl rfl rfl rfl ?_
    refine J.gno (b := true) rfl rfl rfl rfl rfl rfl ?_
    refine J.gno (b := true) rfl rfl rfl rfl rfl rfl ?_
    refine J.gno (b := true) rfl rfl rfl rfl rfl rfl ?_
    refine J.yl (y_pick rfl rfl (fun _ => rfl) (fun h => by cases h)) rfl rfl rfl ?_
    refine J.yl (y_assign rfl rfl) rfl rfl rfl ?_
    refine J.nil ?_
    refine JQ.next hK3 ?_
    refine JC.yes rfl ?_
    refine JC.seq fun K4 hK4 => ?_
    refine JC.region ?_
    refine J.yl (y_assign rfl rfl) rfl rfl rfl ?_
    refine J.yl (y_assign rfl rfl) rfl rfl rfl ?_
    refine J.nil ?_
    refine JQ.next hK4 ?_
    refine JC.ret ?_
    refine JQ.block_ret (JQ.then_ret ?_)
    refine JQ.st ?_ (fun w hs => hs.nilrow 30 32)
    exact ret2 rfl (r_tmp rfl) (r_tmp rfl) fun w hs => by rw [hnil (by omega), hE2 (by omega)]; exact Post.of_st hs (none, 0) (Nat.le_refl _) (List.Sublist.refl _) fun _ _ => trivial
  · refine J.yl (y_move rfl rfl) rfl rfl rfl ?_
    refine J.gyes (y_move rfl rfl) rfl rfl rfl rfl rfl rfl ?_
    refine J.gyes (y_move rfl rfl) rfl rfl rfl rfl rfl rfl ?_
    refine J.gyes (y_len rfl Tryd.underlying22 rfl) rfl rfl rfl rfl rfl rfl ?_
    refine J.gyes (y_gt rfl rfl rfl) rfl rfl rfl rfl rfl rfl ?_
    refine J.yl (y_pick rfl rfl (fun h => by cases h) (fun _ => rfl)) rfl rfl rfl ?_
    refine J.yl (y_assign rfl rfl) rfl rfl rfl ?_
    refine J.nil ?_
    refine JQ.next hK3 ?_
    refine JC.condp rfl (fun h2 => ?_) (fun h2 => ?_)
    · refine JC.seq fun K5 hK5 => ?_
      refine JC.region ?_
      refine J.yl (y_assign rfl rfl) rfl rfl rfl ?_
      refine J.yl (y_assign rfl rfl) rfl rfl rfl ?_
      refine J.nil ?_
      refine JQ.next hK5 ?_
      refine JC.ret ?_
      refine JQ.block_ret (JQ.then_ret ?_)
      refine JQ.st ?_ (fun w hs => hs.nilrow 30 32)
      exact ret2 rfl (r_tmp rfl) (r_tmp rfl) fun w hs => by rw [hnil (by omega), hE2 (by omega)]; exact Post.of_st hs (none, 0) (Nat.le_refl _) (List.Sublist.refl _) fun _ _ => trivial
    · refine JC.seq fun K6 hK6 => ?_
      refine JC.region ?_
      refine J.yl (y_move rfl rfl) rfl rfl rfl ?_
      refine J.ylp (y_eq rfl rfl rfl) rfl rfl rfl (fun h3 => ?_) (fun h3 => ?_)
      · refine J.yl (y_move rfl rfl) rfl rfl rfl ?_
        refine J.gno (b := true) rfl rfl rfl rfl rfl rfl ?_
        refine J.gno (b := true) rfl rfl rfl rfl rfl rfl ?_
        refine J.gno (b := true) rfl rfl rfl rfl rfl rfl ?_
        refine J.gno (b := true) rfl rfl rfl rfl rfl rfl ?_
        refine J.yl (y_pick rfl rfl (fun _ => rfl) (fun h => by cases h)) rfl rfl rfl ?_
        refine J.yl (y_assign rfl rfl) rfl rfl rfl ?_
        refine J.nil ?_
        refine JQ.next hK6 ?_
        refine JC.yes rfl ?_
        refine JC.seq fun K7 hK7 => ?_
        refine JC.region ?_
        refine J.yl (y_assign rfl rfl) rfl rfl rfl ?_
        refine J.yl (y_assign rfl rfl) rfl rfl rfl ?_
        refine J.nil ?_
        refine JQ.next hK7 ?_
        refine JC.ret ?_
        refine JQ.block_ret (JQ.then_ret ?_)
        refine JQ.st ?_ (fun w hs => hs.nilrow 30 32)
        exact ret2 rfl (r_tmp rfl) (r_tmp rfl) fun w hs => by rw [hnil (by omega), hE0 (by omega)]; exact Post.of_st hs (none, 0) (Nat.le_refl _) (List.Sublist.refl _) fun _ _ => trivial
      · refine J.yl (y_move rfl rfl) rfl rfl rfl ?_
        refine J.gyes (y_move rfl rfl) rfl rfl rfl rfl rfl rfl ?_
        refine J.gyes (y_move rfl rfl) rfl rfl rfl rfl rfl rfl ?_
        refine J.gyes (y_len rfl Tryd.underlying22 rfl) rfl rfl rfl rfl rfl rfl ?_
        refine J.gyes (y_eq rfl rfl rfl) rfl rfl rfl rfl rfl rfl ?_
        refine J.yl (y_pick rfl rfl (fun h => by cases h) (fun _ => rfl)) rfl rfl rfl ?_
        refine J.yl (y_assign rfl rfl) rfl rfl rfl ?_
        refine J.nil ?_
        refine JQ.next hK6 ?_
        refine JC.condp rfl (fun h4 => ?_) (fun h4 => ?_)
        · refine JC.seq fun K8 hK8 => ?_
          refine JC.region ?_
          refine J.yl (y_assign rfl rfl) rfl rfl rfl ?_
          refine J.yl (y_assign rfl rfl) rfl rfl rfl ?_
          refine J.nil ?_
          refine JQ.next hK8 ?_
          refine JC.ret ?_
          refine JQ.block_ret (JQ.then_ret ?_)
          refine JQ.st ?_ (fun w hs => hs.nilrow 30 32)
          exact ret2 rfl (r_tmp rfl) (r_tmp rfl) fun w hs => by rw [hnil (by omega), hE0 (by omega)]; exact Post.of_st hs (none, 0) (Nat.le_refl _) (List.Sublist.refl _) fun _ _ => trivial
        · refine JC.skip ?_
          refine JQ.block_normal (JQ.next hK2 ?_)
          refine JC.seq fun K9 hK9 => ?_
          refine JC.region ?_
          refine J.alloc rfl rfl rfl rfl Tb.zz22 rfl fun g6 => ?_
          refine J.nil ?_
          refine JQ.next hK9 ?_
          refine JC.seq fun K10 hK10 => ?_
          refine JC.region ?_
          refine J.alloc rfl rfl rfl rfl Tb.zz155 rfl fun g7 => ?_
          refine J.nil ?_
          refine JQ.next hK10 ?_
          refine JC.seq fun K11 hK11 => ?_
          refine JC.region ?_
          refine J.yl (y_funcE rfl rfl rfl) rfl rfl rfl ?_
          refine J.store1 0 rfl rfl rfl rfl rfl rfl rfl Tb.sz155 (by first | (simp; done) | exact Nat.le_of_ble_eq_true rfl) rfl ?_
          refine J.nil ?_
          refine JQ.next hK11 ?_
          refine JC.seq fun K12 hK12 => ?_
          refine JC.region ?_
          refine J.yl (y_lb 0 rfl Tb.ag155 rfl rfl rfl) rfl rfl rfl ?_
          refine J.yl (y_move rfl rfl) rfl rfl rfl ?_
          refine J.yl (y_move rfl rfl) rfl rfl rfl ?_
          refine J.st ?_ (fun w hs => hs.nilrow 30 32)
          refine J.front 0 rfl ?_
          refine J.front 2 rfl ?_
          refine J.callcR (Cin := [_, _]) rfl rfl rfl rfl rfl Tb.cl106 rfl rfl (psub_fn g6 g7 n l m.toNat true A n k m (Nat.le_refl _) (by omega) (by omega) hn hk hM (by omega) [] (none, 0) (by simp; omega) _ (fun w h => ⟨cell_box (ck 0 rfl h) rfl, hA w h.1⟩)) ?_
          rintro ⟨B2, j2⟩ hB2
          refine J.nil ?_
          refine JQ.next hK12 ?_
          refine JC.seq fun K13 hK13 => ?_
          refine JC.region ?_
          refine J.yl (y_lb 0 rfl Tb.ag22 rfl rfl rfl) rfl rfl rfl ?_
          refine J.yl (y_assign rfl rfl) rfl rfl rfl ?_
          refine J.yl (y_assign rfl rfl) rfl rfl rfl ?_
          refine J.nil ?_
          refine JQ.next hK13 ?_
          refine JC.ret ?_
          exact ret2 rfl (r_tmp rfl) (r_tmp rfl) fun w hs => by
            rw [hsub (by omega), hE0 (by omega)]
            refine Post.of_st hs (B2, j2) ?_ (.cons _ (.cons_cons _ (List.nil_sublist _))) fun _ _ => trivial
            rcases hB2 with h | ⟨h, e⟩
            · exact h
            · rw [show sub l m.toNat true = [] from h]; exact Nat.zero_le _
theorem holds_fn (b : Bool) : PureFn Tryd.prog Gl 109 [.bool b] F (.int .i64 (if b = true then 0 else 80)) := by
  refine FnSpec.intro Tryd.func109 rfl Tryd.ntmps109 rfl fun X M w => ?_
  refine JC.seq fun K1 hK1 => ?_
  refine JC.region ?_
  refine J.yl (y_assign rfl rfl) rfl rfl rfl ?_
  refine J.nil ?_
  refine JQ.next hK1 ?_
  refine JC.seq fun K2 hK2 => ?_
  refine JC.seq fun K3 hK3 => ?_
  refine JC.region ?_
  refine J.yl (y_move rfl rfl) rfl rfl rfl ?_
  refine J.yl (y_not rfl rfl) rfl rfl rfl ?_
  refine J.nil ?_
  refine JQ.next hK3 ?_
  refine JC.cond rfl (fun h => ?_) (fun h => ?_)
  · obtain rfl : b = false := by simpa using h
    refine JC.seq fun K4 hK4 => ?_
    refine JC.region ?_
    refine J.yl (y_assign rfl rfl) rfl rfl rfl ?_
    refine J.nil ?_
    refine JQ.next hK4 ?_
    refine JC.ret ?_
    refine JQ.then_ret ?_
    exact ret1 rfl (r_tmp rfl) fun w hs => Post.pure hs
  · obtain rfl : b = true := by simpa using h
    refine JC.skip ?_
    refine JQ.next hK2 ?_
    refine JC.seq fun K5 hK5 => ?_
    refine JC.region ?_
    refine J.yl (y_assign rfl rfl) rfl rfl rfl ?_
    refine J.nil ?_
    refine JQ.next hK5 ?_
    refine JC.ret ?_
    exact ret1 rfl (r_tmp rfl) fun w hs => Post.pure hs
/-- What is left of a list of hashes: the next one. -/
theorem next0_fn (g9 : Nat) (A : Option Addr) (n k : Nat) (hn : n = 0) : FnSpec Tryd.prog Gl 110 [.pointer (some ⟨g9, 0, none⟩)] [.box g9 22 [.slice A n k]] F (ι := Unit) (fun _ => True) (fun _ => .tuple #[hv H.zero, .bool false]) (fun _ => [.box g9 22 [.slice A n k]]) (fun _ _ => True) := by
  subst hn
  refine FnSpec.intro Tryd.func110 rfl Tryd.ntmps110 rfl fun X M w => ?_
  refine JC.seq fun K1 hK1 => ?_
  refine JC.region ?_
  refine J.alloc rfl rfl rfl rfl Tb.zz30 rfl fun g1 => ?_
  refine J.yl (y_assign rfl rfl) rfl rfl rfl ?_
  refine J.nil ?_
  refine JQ.next hK1 ?_
  refine JC.seq fun K2 hK2 => ?_
  refine JC.seq fun K3 hK3 => ?_
  refine JC.region ?_
  refine J.yl (y_lb 1 rfl Tb.ag22 rfl rfl rfl) rfl rfl rfl ?_
  refine J.yl (y_len rfl Tryd.underlying22 rfl) rfl rfl rfl ?_
  refine J.yl (y_eq rfl rfl rfl) rfl rfl rfl ?_
  refine J.nil ?_
  refine JQ.next hK3 ?_
  refine JC.condp rfl (fun h => ?_) (fun h => ?_)
  · refine JC.seq fun K4 hK4 => ?_
    refine JC.region ?_
    refine J.yl (y_lbW 0 rfl Tb.ag30 Tb.sz30 (hcl _) rfl rfl) rfl rfl rfl ?_
    refine J.storeW 0 rfl rfl rfl rfl rfl rfl rfl Tb.sz30 (hcl _) (hcl _) (hc1 _) ?_
    refine J.yl (y_assign rfl rfl) rfl rfl rfl ?_
    refine J.nil ?_
    refine JQ.next hK4 ?_
    refine JC.ret ?_
    refine JQ.then_ret ?_
    exact ret2 rfl (r_cellA 0 rfl rfl Tb.ag30 (by rw [hcl]; exact Tb.sz30)) (r_tmp rfl) fun w hs => Post.of_st hs () trivial (.cons _ (List.Sublist.refl _)) fun _ _ => trivial
  · omega
theorem next1_fn (g9 : Nat) (A : Option Addr) (n k : Nat) (x : H) (r : List H) (hn : r.length + 1 = n) (hk : n ≤ k) (hA : ∀ w, F w → Sl w A (hcs (x :: r))) : FnSpec Tryd.prog Gl 110 [.pointer (some ⟨g9, 0, none⟩)] [.box g9 22 [.slice A n k]] F (ι := Unit) (fun _ => True) (fun _ => .tuple #[hv x, .bool true]) (fun _ => [.box g9 22 [.slice (cutA A k 1 32) (n - 1) (k - 1)]]) (fun _ _ => True) := by
  refine FnSpec.intro Tryd.func110 rfl Tryd.ntmps110 rfl fun X M w => ?_
  refine JC.seq fun K1 hK1 => ?_
  refine JC.region ?_
  refine J.alloc rfl rfl rfl rfl Tb.zz30 rfl fun g1 => ?_
  refine J.yl (y_assign rfl rfl) rfl rfl rfl ?_
  refine J.nil ?_
  refine JQ.next hK1 ?_
  refine JC.seq fun K2 hK2 => ?_
  refine JC.seq fun K3 hK3 => ?_
  refine JC.region ?_
  refine J.yl (y_lb 1 rfl Tb.ag22 rfl rfl rfl) rfl rfl rfl ?_
  refine J.yl (y_len rfl Tryd.underlying22 rfl) rfl rfl rfl ?_
  refine J.yl (y_eq rfl rfl rfl) rfl rfl rfl ?_
  refine J.nil ?_
  refine JQ.next hK3 ?_
  refine JC.condp rfl (fun h => ?_) (fun h => ?_)
  · omega
  · refine JC.skip ?_
    refine JQ.next hK2 ?_
    refine JC.seq fun K4 hK4 => ?_
    refine JC.drawM [false, true] (by kernel_rfl) ?_
    refine D.take 0 (y_lb 0 rfl Tb.ag22 rfl rfl rfl) rfl rfl rfl rfl (by kernel_rfl) (by kernel_rfl) (by kernel_rfl) (PQ.next PQ.body) ?_
    refine D.take 3 (y_lb 0 rfl Tb.ag22 rfl rfl rfl) rfl rfl rfl rfl (by kernel_rfl) (by kernel_rfl) (by kernel_rfl) (PQ.next PQ.body) ?_
    refine D.take 1 (y_hidx (l := x :: r) 0 rfl Tryd.underlying22 Tb.sz30 rfl rfl rfl hn (by omega) (fun w hs => hA w hs.fact)) rfl rfl rfl rfl (by kernel_rfl) (by kernel_rfl) (by kernel_rfl) (PQ.next PQ.body) ?_
    refine D.take 2 (y_hld (l := x :: r) x rfl Tb.ag30 Tb.sz30 rfl rfl (fun w hs => hA w hs.fact)) rfl rfl rfl rfl (by kernel_rfl) (by kernel_rfl) (by kernel_rfl) (PQ.next PQ.body) ?_
    refine D.take 4 (y_cutfromN 1 rfl Tryd.underlying22 Tb.sz30 rfl rfl rfl (by omega)) rfl rfl rfl rfl (by kernel_rfl) (by kernel_rfl) (by kernel_rfl) (PQ.next PQ.body) ?_
    refine D.ofJ 5 (by kernel_rfl) rfl fun KhK5 hK5 => ?_
    refine J.storeW 0 rfl rfl rfl rfl rfl rfl rfl Tb.sz30 (hcl _) (hcl _) (hc1 _) ?_
    refine J.nil ?_
    refine hK5 _ _ _ (fun w hs => hs.mask [false, true]) ?_
    refine D.store1 6 1 (by kernel_rfl) rfl (by kernel_rfl) (by kernel_rfl) rfl rfl rfl rfl rfl rfl rfl Tb.sz22  (by first | (simp; done) | exact Nat.le_of_ble_eq_true rfl) rfl ?_
    refine JQ.next hK4 ?_
    refine JC.seq fun K6 hK6 => ?_
    refine JC.region ?_
    refine J.yl (y_lbW 0 rfl Tb.ag30 Tb.sz30 (hcl _) rfl rfl) rfl rfl rfl ?_
    refine J.storeW 0 rfl rfl rfl rfl rfl rfl rfl Tb.sz30 (hcl _) (hcl _) (hc1 _) ?_
    refine J.yl (y_assign rfl rfl) rfl rfl rfl ?_
    refine J.nil ?_
    refine JQ.next hK6 ?_
    refine JC.ret ?_
    exact ret2 rfl (r_cellA 0 rfl rfl Tb.ag30 (by rw [hcl]; exact Tb.sz30)) (r_tmp rfl) fun w hs => Post.of_st hs () trivial (.cons _ (List.Sublist.refl _)) fun _ _ => trivial
theorem nil_or_cons (p : List H) : p = [] ∨ ∃ x r, p = x :: r := by
  cases p with
  | nil => exact .inl rfl
  | cons x r => exact .inr ⟨x, r, rfl⟩
theorem check_fn (m n : Int) (older newer : H) (p : List H) (A : Option Addr) (j k : Nat) (hj : p.length = j) (hk : j ≤ k) (hA : ∀ w, F w → Sl w A (hcs p)) :
    PureFn Tryd.prog Gs 27 [.int .i64 m, .int .i64 n, hv older, hv newer, .slice A j k] F (.int .i64 (chk m n older newer p)) := by
  have h2 : n < 0 ∨ 4096 < n ∨ m < 0 ∨ n < m → chk m n older newer p = 2 := fun h => if_pos h
  have h0 : ¬ (n < 0 ∨ 4096 < n ∨ m < 0 ∨ n < m) → chk m n older newer p = if chkOk m.toNat n.toNat older newer p = true then 0 else 80 := fun h => if_neg h
  refine FnSpec.intro Tryd.func27 rfl Tryd.ntmps27 rfl fun X M w => ?_
  refine JC.seq fun K1 hK1 => ?_
  refine JC.region ?_
  refine J.box rfl rfl rfl rfl rfl rfl fun g7 => ?_
  refine J.box rfl rfl rfl rfl rfl rfl fun g8 => ?_
  refine J.box rfl rfl rfl rfl rfl rfl fun g9 => ?_
  refine J.yl (y_assign rfl rfl) rfl rfl rfl ?_
  refine J.nil ?_
  refine JQ.next hK1 ?_
  refine JC.seq fun K2 hK2 => ?_
  refine JC.block ?_
  refine JC.seq fun K3 hK3 => ?_
  refine JC.region ?_
  refine J.yl (y_move rfl rfl) rfl rfl rfl ?_
  refine J.ylp (y_lt rfl rfl rfl) rfl rfl rfl (fun c1 => ?_) (fun c1 => ?_)
  · refine J.yl (y_move rfl rfl) rfl rfl rfl ?_
    refine J.gno (b := true) rfl rfl rfl rfl rfl rfl ?_
    refine J.gno (b := true) rfl rfl rfl rfl rfl rfl ?_
    refine J.yl (y_pick rfl rfl (fun _ => rfl) (fun h => by cases h)) rfl rfl rfl ?_
    refine J.yl (y_move rfl rfl) rfl rfl rfl ?_
    refine J.gno (b := true) rfl rfl rfl rfl rfl rfl ?_
    refine J.gno (b := true) rfl rfl rfl rfl rfl rfl ?_
    refine J.yl (y_pick rfl rfl (fun _ => rfl) (fun h => by cases h)) rfl rfl rfl ?_
    refine J.yl (y_move rfl rfl) rfl rfl rfl ?_
    refine J.gno (b := true) rfl rfl rfl rfl rfl rfl ?_
    refine J.gno (b := true) rfl rfl rfl rfl rfl rfl ?_
    refine J.gno (b := true) rfl rfl rfl rfl rfl rfl ?_
    refine J.yl (y_pick rfl rfl (fun _ => rfl) (fun h => by cases h)) rfl rfl rfl ?_
    refine J.yl (y_assign rfl rfl) rfl rfl rfl ?_
    refine J.nil ?_
    refine JQ.next hK3 ?_
    refine JC.yes rfl ?_
    refine JC.seq fun K4 hK4 => ?_
    refine JC.region ?_
    refine J.yl (y_assign rfl rfl) rfl rfl rfl ?_
    refine J.nil ?_
    refine JQ.next hK4 ?_
    refine JC.ret ?_
    refine JQ.block_ret (JQ.then_ret ?_)
    exact ret1 rfl (r_tmp rfl) fun w hs => by rw [h2 (by omega)]; exact Post.pure hs
  · refine J.yl (y_move rfl rfl) rfl rfl rfl ?_
    refine J.gyes (y_move rfl rfl) rfl rfl rfl rfl rfl rfl ?_
    refine J.ypG (y_gt rfl rfl rfl) rfl rfl rfl rfl rfl rfl (fun c2 => ?_) (fun c2 => ?_)
    · refine J.yl (y_pick rfl rfl (fun h => by cases h) (fun _ => rfl)) rfl rfl rfl ?_
      refine J.yl (y_move rfl rfl) rfl rfl rfl ?_
      refine J.gno (b := true) rfl rfl rfl rfl rfl rfl ?_
      refine J.gno (b := true) rfl rfl rfl rfl rfl rfl ?_
      refine J.yl (y_pick rfl rfl (fun _ => rfl) (fun h => by cases h)) rfl rfl rfl ?_
      refine J.yl (y_move rfl rfl) rfl rfl rfl ?_
      refine J.gno (b := true) rfl rfl rfl rfl rfl rfl ?_
      refine J.gno (b := true) rfl rfl rfl rfl rfl rfl ?_
      refine J.gno (b := true) rfl rfl rfl rfl rfl rfl ?_
      refine J.yl (y_pick rfl rfl (fun _ => rfl) (fun h => by cases h)) rfl rfl rfl ?_
      refine J.yl (y_assign rfl rfl) rfl rfl rfl ?_
      refine J.nil ?_
      refine JQ.next hK3 ?_
      refine JC.yes rfl ?_
      refine JC.seq fun K5 hK5 => ?_
      refine JC.region ?_
      refine J.yl (y_assign rfl rfl) rfl rfl rfl ?_
      refine J.nil ?_
      refine JQ.next hK5 ?_
      refine JC.ret ?_
      refine JQ.block_ret (JQ.then_ret ?_)
      exact ret1 rfl (r_tmp rfl) fun w hs => by rw [h2 (by omega)]; exact Post.pure hs
    · refine J.yl (y_pick rfl rfl (fun h => by cases h) (fun _ => rfl)) rfl rfl rfl ?_
      refine J.yl (y_move rfl rfl) rfl rfl rfl ?_
      refine J.gyes (y_move rfl rfl) rfl rfl rfl rfl rfl rfl ?_
      refine J.ypG (y_lt rfl rfl rfl) rfl rfl rfl rfl rfl rfl (fun c3 => ?_) (fun c3 => ?_)
      · refine J.yl (y_pick rfl rfl (fun h => by cases h) (fun _ => rfl)) rfl rfl rfl ?_
        refine J.yl (y_move rfl rfl) rfl rfl rfl ?_
        refine J.gno (b := true) rfl rfl rfl rfl rfl rfl ?_
        refine J.gno (b := true) rfl rfl rfl rfl rfl rfl ?_
        refine J.gno (b := true) rfl rfl rfl rfl rfl rfl ?_
        refine J.yl (y_pick rfl rfl (fun _ => rfl) (fun h => by cases h)) rfl rfl rfl ?_
        refine J.yl (y_assign rfl rfl) rfl rfl rfl ?_
        refine J.nil ?_
        refine JQ.next hK3 ?_
        refine JC.yes rfl ?_
        refine JC.seq fun K6 hK6 => ?_
        refine JC.region ?_
        refine J.yl (y_assign rfl rfl) rfl rfl rfl ?_
        refine J.nil ?_
        refine JQ.next hK6 ?_
        refine JC.ret ?_
        refine JQ.block_ret (JQ.then_ret ?_)
        exact ret1 rfl (r_tmp rfl) fun w hs => by rw [h2 (by omega)]; exact Post.pure hs
      · refine J.yl (y_pick rfl rfl (fun h => by cases h) (fun _ => rfl)) rfl rfl rfl ?_
        refine J.yl (y_move rfl rfl) rfl rfl rfl ?_
        refine J.gyes (y_move rfl rfl) rfl rfl rfl rfl rfl rfl ?_
        refine J.gyes (y_move rfl rfl) rfl rfl rfl rfl rfl rfl ?_
        refine J.gyes (y_gt rfl rfl rfl) rfl rfl rfl rfl rfl rfl ?_
        refine J.yl (y_pick rfl rfl (fun h => by cases h) (fun _ => rfl)) rfl rfl rfl ?_
        refine J.yl (y_assign rfl rfl) rfl rfl rfl ?_
        refine J.nil ?_
        refine JQ.next hK3 ?_
        refine JC.condp rfl (fun c4 => ?_) (fun c4 => ?_)
        · refine JC.seq fun K7 hK7 => ?_
          refine JC.region ?_
          refine J.yl (y_assign rfl rfl) rfl rfl rfl ?_
          refine J.nil ?_
          refine JQ.next hK7 ?_
          refine JC.ret ?_
          refine JQ.block_ret (JQ.then_ret ?_)
          exact ret1 rfl (r_tmp rfl) fun w hs => by rw [h2 (by omega)]; exact Post.pure hs
        · refine JC.seq fun K8 hK8 => ?_
          refine JC.region ?_
          refine J.yl (y_move rfl rfl) rfl rfl rfl ?_
          refine J.yl (y_eq rfl rfl rfl) rfl rfl rfl ?_
          refine J.yl (y_assign rfl rfl) rfl rfl rfl ?_
          refine J.nil ?_
          refine JQ.next hK8 ?_
          have h0 := h0 (by omega)
          obtain ⟨m, rfl⟩ : ∃ q : Nat, m = q := ⟨m.toNat, by omega⟩
          obtain ⟨n, rfl⟩ : ∃ q : Nat, n = q := ⟨n.toNat, by omega⟩
          rw [Int.toNat_natCast, Int.toNat_natCast] at h0
          refine JC.condp rfl (fun c5 => ?_) (fun c5 => ?_)
          · obtain rfl : m = 0 := by omega
            have hz : chkOk 0 n older newer p = (decide (p.length = 0) && (decide (older = sha []) && (decide (0 < n) || decide (newer = older)))) := if_pos rfl
            refine JC.seq fun K9 hK9 => ?_
            refine JC.drawM [true, true, true] (by kernel_rfl) ?_
            refine D.take 0 (y_lb 0 rfl Tb.ag22 rfl rfl rfl) rfl rfl rfl rfl (by kernel_rfl) (by kernel_rfl) (by kernel_rfl) (PQ.next (PQ.block (PQ.next PQ.body))) ?_
            refine D.take 1 (y_len rfl Tryd.underlying22 rfl) rfl rfl rfl rfl (by kernel_rfl) (by kernel_rfl) (by kernel_rfl) (PQ.next (PQ.block (PQ.next PQ.body))) ?_
            refine D.takep 2 (y_eq rfl rfl rfl) rfl rfl rfl rfl (by kernel_rfl) (by kernel_rfl) (by kernel_rfl) (PQ.next (PQ.block (PQ.next PQ.body))) (fun c6 => ?_) (fun c6 => ?_)
            · have hz : chkOk 0 n older newer p = (decide (older = sha []) && (decide (0 < n) || decide (newer = older))) := by rw [hz, decide_eq_true (show p.length = 0 by omega), Bool.true_and]
              refine D.take 3 (y_move rfl rfl) rfl rfl rfl rfl (by kernel_rfl) (by kernel_rfl) (by kernel_rfl) (PQ.next (PQ.block (PQ.next PQ.body))) ?_
              refine D.takeG 4 (y_lbW 2 rfl Tb.ag30 Tb.sz30 (hcl _) rfl rfl) rfl rfl rfl rfl rfl rfl rfl (by kernel_rfl) (by kernel_rfl) (by kernel_rfl) (PQ.next (PQ.block (PQ.next PQ.body))) ?_
              refine D.ofJ 5 (by kernel_rfl) rfl fun KhK11 hK11 => ?_
              refine J.gon rfl rfl rfl rfl ?_
              refine J.callv rfl rfl rfl rfl Tb.cl30 rfl (root_spec [] none 0 0 rfl (Nat.le_refl _) (by omega) (fun w h => .inl rfl)) ?_
              refine J.nil ?_
              refine hK11 _ _ _ (fun w hs => hs.mask [true, true, true]) ?_
              refine D.takepG 6 (y_heq rfl Tryd.underlying30 Tryd.underlying5 Tb.ag5 Tb.sz5 Tb.eg30 rfl rfl) rfl rfl rfl rfl rfl rfl rfl (by kernel_rfl) (by kernel_rfl) (by kernel_rfl) (PQ.next (PQ.block (PQ.next PQ.body))) (fun c7 => ?_) (fun c7 => ?_)
              · have hz : chkOk 0 n older newer p = (decide (0 < n) || decide (newer = older)) := by rw [hz, decide_eq_true (show older = sha [] from c7), Bool.true_and]
                refine D.take 7 (y_pick rfl rfl (fun _ => rfl) (fun h => by cases h)) rfl rfl rfl rfl (by kernel_rfl) (by kernel_rfl) (by kernel_rfl) (PQ.next (PQ.block (PQ.next PQ.body))) ?_
                refine D.take 8 (y_move rfl rfl) rfl rfl rfl rfl (by kernel_rfl) (by kernel_rfl) (by kernel_rfl) (PQ.next (PQ.block (PQ.next PQ.body))) ?_
                refine D.takeG 9 (y_move rfl rfl) rfl rfl rfl rfl rfl rfl rfl (by kernel_rfl) (by kernel_rfl) (by kernel_rfl) (PQ.next (PQ.block (PQ.next PQ.body))) ?_
                refine D.takepG 10 (y_gt rfl rfl rfl) rfl rfl rfl rfl rfl rfl rfl (by kernel_rfl) (by kernel_rfl) (by kernel_rfl) (PQ.next (PQ.block (PQ.next PQ.body))) (fun c8 => ?_) (fun c8 => ?_)
                · have hz : chkOk 0 n older newer p = true := by rw [hz, decide_eq_true (show 0 < n by omega), Bool.true_or]
                  refine D.takeG 11 (y_move rfl rfl) rfl rfl rfl rfl rfl rfl rfl (by kernel_rfl) (by kernel_rfl) (by kernel_rfl) (PQ.next (PQ.block (PQ.next PQ.body))) ?_
                  refine D.skipG (b := true) 12 rfl rfl rfl rfl rfl rfl rfl (by kernel_rfl) (by kernel_rfl) (by kernel_rfl) (PQ.next (PQ.block (PQ.next PQ.body))) ?_
                  refine D.skipG (b := true) 13 rfl rfl rfl rfl rfl rfl rfl (by kernel_rfl) (by kernel_rfl) (by kernel_rfl) (PQ.next (PQ.block (PQ.next PQ.body))) ?_
                  refine D.skipG (b := true) 14 rfl rfl rfl rfl rfl rfl rfl (by kernel_rfl) (by kernel_rfl) (by kernel_rfl) (PQ.next (PQ.block (PQ.next PQ.body))) ?_
                  refine D.takeG 15 (y_pick rfl rfl (fun _ => rfl) (fun h => by cases h)) rfl rfl rfl rfl rfl rfl rfl (by kernel_rfl) (by kernel_rfl) (by kernel_rfl) (PQ.next (PQ.block (PQ.next PQ.body))) ?_
                  refine D.take 16 (y_pick rfl rfl (fun _ => rfl) (fun h => by cases h)) rfl rfl rfl rfl (by kernel_rfl) (by kernel_rfl) (by kernel_rfl) (PQ.next (PQ.block (PQ.next PQ.body))) ?_
                  refine D.ofJ 17 (by kernel_rfl) rfl fun KhK13 hK13 => ?_
                  refine J.callv rfl rfl rfl rfl Tb.cl109 rfl (holds_fn true) ?_
                  refine J.nil ?_
                  refine hK13 _ _ _ (fun w hs => hs.mask [true, true, true]) ?_
                  refine D.take 18 (y_assign rfl rfl) rfl rfl rfl rfl (by kernel_rfl) (by kernel_rfl) (by kernel_rfl) (PQ.next (PQ.block (PQ.next PQ.body))) ?_
                  refine D.done (by kernel_rfl) ?_
                  refine JQ.next hK9 ?_
                  refine JC.ret ?_
                  refine JQ.block_ret (JQ.then_ret ?_)
                  exact ret1 rfl (r_tmp rfl) fun w hs => by rw [h0, hz]; exact Post.pure hs
                · have hz : chkOk 0 n older newer p = decide (newer = older) := by rw [hz, decide_eq_false (show ¬ 0 < n by omega), Bool.false_or]
                  refine D.takeG 11 (y_move rfl rfl) rfl rfl rfl rfl rfl rfl rfl (by kernel_rfl) (by kernel_rfl) (by kernel_rfl) (PQ.next (PQ.block (PQ.next PQ.body))) ?_
                  refine D.takeG 12 (y_lbW 1 rfl Tb.ag30 Tb.sz30 (hcl _) rfl rfl) rfl rfl rfl rfl rfl rfl rfl (by kernel_rfl) (by kernel_rfl) (by kernel_rfl) (PQ.next (PQ.block (PQ.next PQ.body))) ?_
                  refine D.takeG 13 (y_lbW 2 rfl Tb.ag30 Tb.sz30 (hcl _) rfl rfl) rfl rfl rfl rfl rfl rfl rfl (by kernel_rfl) (by kernel_rfl) (by kernel_rfl) (PQ.next (PQ.block (PQ.next PQ.body))) ?_
                  refine D.takeG 14 (y_heq rfl Tryd.underlying30 Tryd.underlying5 Tb.ag5 Tb.sz5 Tb.eg30 rfl rfl) rfl rfl rfl rfl rfl rfl rfl (by kernel_rfl) (by kernel_rfl) (by kernel_rfl) (PQ.next (PQ.block (PQ.next PQ.body))) ?_
                  refine D.takeG 15 (y_pick rfl rfl (fun h => by cases h) (fun _ => rfl)) rfl rfl rfl rfl rfl rfl rfl (by kernel_rfl) (by kernel_rfl) (by kernel_rfl) (PQ.next (PQ.block (PQ.next PQ.body))) ?_
                  refine D.take 16 (y_pick rfl rfl (fun _ => rfl) (fun h => by cases h)) rfl rfl rfl rfl (by kernel_rfl) (by kernel_rfl) (by kernel_rfl) (PQ.next (PQ.block (PQ.next PQ.body))) ?_
                  refine D.ofJ 17 (by kernel_rfl) rfl fun KhK15 hK15 => ?_
                  refine J.callv rfl rfl rfl rfl Tb.cl109 rfl (holds_fn (decide (newer = older))) ?_
                  refine J.nil ?_
                  refine hK15 _ _ _ (fun w hs => hs.mask [true, true, true]) ?_
                  refine D.take 18 (y_assign rfl rfl) rfl rfl rfl rfl (by kernel_rfl) (by kernel_rfl) (by kernel_rfl) (PQ.next (PQ.block (PQ.next PQ.body))) ?_
                  refine D.done (by kernel_rfl) ?_
                  refine JQ.next hK9 ?_
                  refine JC.ret ?_
                  refine JQ.block_ret (JQ.then_ret ?_)
                  exact ret1 rfl (r_tmp rfl) fun w hs => by rw [h0, hz]; exact Post.pure hs
              · have hz : chkOk 0 n older newer p = false := by rw [hz, decide_eq_false (show ¬ older = sha [] from c7), Bool.false_and]
                refine D.take 7 (y_pick rfl rfl (fun _ => rfl) (fun h => by cases h)) rfl rfl rfl rfl (by kernel_rfl) (by kernel_rfl) (by kernel_rfl) (PQ.next (PQ.block (PQ.next PQ.body))) ?_
                refine D.take 8 (y_move rfl rfl) rfl rfl rfl rfl (by kernel_rfl) (by kernel_rfl) (by kernel_rfl) (PQ.next (PQ.block (PQ.next PQ.body))) ?_
                refine D.skipG (b := false) 9 rfl rfl rfl rfl rfl rfl rfl (by kernel_rfl) (by kernel_rfl) (by kernel_rfl) (PQ.next (PQ.block (PQ.next PQ.body))) ?_
                refine D.skipG (b := false) 10 rfl rfl rfl rfl rfl rfl rfl (by kernel_rfl) (by kernel_rfl) (by kernel_rfl) (PQ.next (PQ.block (PQ.next PQ.body))) ?_
                refine D.skipG (b := false) 11 rfl rfl rfl rfl rfl rfl rfl (by kernel_rfl) (by kernel_rfl) (by kernel_rfl) (PQ.next (PQ.block (PQ.next PQ.body))) ?_
                refine D.skipGU 12 rfl rfl rfl rfl rfl rfl rfl (by kernel_rfl) (by kernel_rfl) (by kernel_rfl) (PQ.next (PQ.block (PQ.next PQ.body))) ?_
                refine D.skipGU 13 rfl rfl rfl rfl rfl rfl rfl (by kernel_rfl) (by kernel_rfl) (by kernel_rfl) (PQ.next (PQ.block (PQ.next PQ.body))) ?_
                refine D.skipGU 14 rfl rfl rfl rfl rfl rfl rfl (by kernel_rfl) (by kernel_rfl) (by kernel_rfl) (PQ.next (PQ.block (PQ.next PQ.body))) ?_
                refine D.skipG (b := false) 15 rfl rfl rfl rfl rfl rfl rfl (by kernel_rfl) (by kernel_rfl) (by kernel_rfl) (PQ.next (PQ.block (PQ.next PQ.body))) ?_
                refine D.take 16 (y_pick rfl rfl (fun h => by cases h) (fun _ => rfl)) rfl rfl rfl rfl (by kernel_rfl) (by kernel_rfl) (by kernel_rfl) (PQ.next (PQ.block (PQ.next PQ.body))) ?_
                refine D.ofJ 17 (by kernel_rfl) rfl fun KhK17 hK17 => ?_
                refine J.callv rfl rfl rfl rfl Tb.cl109 rfl (holds_fn false) ?_
                refine J.nil ?_
                refine hK17 _ _ _ (fun w hs => hs.mask [true, true, true]) ?_
                refine D.take 18 (y_assign rfl rfl) rfl rfl rfl rfl (by kernel_rfl) (by kernel_rfl) (by kernel_rfl) (PQ.next (PQ.block (PQ.next PQ.body))) ?_
                refine D.done (by kernel_rfl) ?_
                refine JQ.next hK9 ?_
                refine JC.ret ?_
                refine JQ.block_ret (JQ.then_ret ?_)
                exact ret1 rfl (r_tmp rfl) fun w hs => by rw [h0, hz]; exact Post.pure hs
            · have hz : chkOk 0 n older newer p = false := by rw [hz, decide_eq_false (show ¬ p.length = 0 by omega), Bool.false_and]
              refine D.take 3 (y_move rfl rfl) rfl rfl rfl rfl (by kernel_rfl) (by kernel_rfl) (by kernel_rfl) (PQ.next (PQ.block (PQ.next PQ.body))) ?_
              refine D.skipG (b := false) 4 rfl rfl rfl rfl rfl rfl rfl (by kernel_rfl) (by kernel_rfl) (by kernel_rfl) (PQ.next (PQ.block (PQ.next PQ.body))) ?_
              refine D.skipG (b := false) 5 rfl rfl rfl rfl rfl rfl rfl (by kernel_rfl) (by kernel_rfl) (by kernel_rfl) (PQ.next (PQ.block (PQ.next PQ.body))) ?_
              refine D.skipG (b := false) 6 rfl rfl rfl rfl rfl rfl rfl (by kernel_rfl) (by kernel_rfl) (by kernel_rfl) (PQ.next (PQ.block (PQ.next PQ.body))) ?_
              refine D.take 7 (y_pick rfl rfl (fun h => by cases h) (fun _ => rfl)) rfl rfl rfl rfl (by kernel_rfl) (by kernel_rfl) (by kernel_rfl) (PQ.next (PQ.block (PQ.next PQ.body))) ?_
              refine D.take 8 (y_move rfl rfl) rfl rfl rfl rfl (by kernel_rfl) (by kernel_rfl) (by kernel_rfl) (PQ.next (PQ.block (PQ.next PQ.body))) ?_
              refine D.skipG (b := false) 9 rfl rfl rfl rfl rfl rfl rfl (by kernel_rfl) (by kernel_rfl) (by kernel_rfl) (PQ.next (PQ.block (PQ.next PQ.body))) ?_
              refine D.skipG (b := false) 10 rfl rfl rfl rfl rfl rfl rfl (by kernel_rfl) (by kernel_rfl) (by kernel_rfl) (PQ.next (PQ.block (PQ.next PQ.body))) ?_
              refine D.skipG (b := false) 11 rfl rfl rfl rfl rfl rfl rfl (by kernel_rfl) (by kernel_rfl) (by kernel_rfl) (PQ.next (PQ.block (PQ.next PQ.body))) ?_
              refine D.skipGU 12 rfl rfl rfl rfl rfl rfl rfl (by kernel_rfl) (by kernel_rfl) (by kernel_rfl) (PQ.next (PQ.block (PQ.next PQ.body))) ?_
              refine D.skipGU 13 rfl rfl rfl rfl rfl rfl rfl (by kernel_rfl) (by kernel_rfl) (by kernel_rfl) (PQ.next (PQ.block (PQ.next PQ.body))) ?_
              refine D.skipGU 14 rfl rfl rfl rfl rfl rfl rfl (by kernel_rfl) (by kernel_rfl) (by kernel_rfl) (PQ.next (PQ.block (PQ.next PQ.body))) ?_
              refine D.skipG (b := false) 15 rfl rfl rfl rfl rfl rfl rfl (by kernel_rfl) (by kernel_rfl) (by kernel_rfl) (PQ.next (PQ.block (PQ.next PQ.body))) ?_
              refine D.take 16 (y_pick rfl rfl (fun h => by cases h) (fun _ => rfl)) rfl rfl rfl rfl (by kernel_rfl) (by kernel_rfl) (by kernel_rfl) (PQ.next (PQ.block (PQ.next PQ.body))) ?_
              refine D.ofJ 17 (by kernel_rfl) rfl fun KhK19 hK19 => ?_
              refine J.callv rfl rfl rfl rfl Tb.cl109 rfl (holds_fn false) ?_
              refine J.nil ?_
              refine hK19 _ _ _ (fun w hs => hs.mask [true, true, true]) ?_
              refine D.take 18 (y_assign rfl rfl) rfl rfl rfl rfl (by kernel_rfl) (by kernel_rfl) (by kernel_rfl) (PQ.next (PQ.block (PQ.next PQ.body))) ?_
              refine D.done (by kernel_rfl) ?_
              refine JQ.next hK9 ?_
              refine JC.ret ?_
              refine JQ.block_ret (JQ.then_ret ?_)
              exact ret1 rfl (r_tmp rfl) fun w hs => by rw [h0, hz]; exact Post.pure hs
          · refine JC.seq fun K20 hK20 => ?_
            refine JC.region ?_
            refine J.yl (y_move rfl rfl) rfl rfl rfl ?_
            refine J.yl (y_move rfl rfl) rfl rfl rfl ?_
            refine J.yl (y_eq rfl rfl rfl) rfl rfl rfl ?_
            refine J.yl (y_assign rfl rfl) rfl rfl rfl ?_
            refine J.nil ?_
            refine JQ.next hK20 ?_
            refine JC.condp rfl (fun d5 => ?_) (fun d5 => ?_)
            · obtain rfl : m = n := by omega
              have hz : chkOk m m older newer p = (decide (p.length = 0) && decide (older = newer)) := by unfold chkOk; rw [if_neg (by omega), if_pos rfl]
              refine JC.seq fun K21 hK21 => ?_
              refine JC.region ?_
              refine J.yl (y_lb 0 rfl Tb.ag22 rfl rfl rfl) rfl rfl rfl ?_
              refine J.yl (y_len rfl Tryd.underlying22 rfl) rfl rfl rfl ?_
              refine J.ylp (y_eq rfl rfl rfl) rfl rfl rfl (fun d6 => ?_) (fun d6 => ?_)
              · have hz : chkOk m m older newer p = decide (older = newer) := by rw [hz, decide_eq_true (show p.length = 0 by omega), Bool.true_and]
                refine J.yl (y_move rfl rfl) rfl rfl rfl ?_
                refine J.gyes (y_lbW 2 rfl Tb.ag30 Tb.sz30 (hcl _) rfl rfl) rfl rfl rfl rfl rfl rfl ?_
                refine J.gyes (y_lbW 1 rfl Tb.ag30 Tb.sz30 (hcl _) rfl rfl) rfl rfl rfl rfl rfl rfl ?_
                refine J.gyes (y_heq rfl Tryd.underlying30 Tryd.underlying5 Tb.ag5 Tb.sz5 Tb.eg30 rfl rfl) rfl rfl rfl rfl rfl rfl ?_
                refine J.yl (y_pick rfl rfl (fun _ => rfl) (fun h => by cases h)) rfl rfl rfl ?_
                refine J.callv rfl rfl rfl rfl Tb.cl109 rfl (holds_fn (decide (older = newer))) ?_
                refine J.yl (y_assign rfl rfl) rfl rfl rfl ?_
                refine J.nil ?_
                refine JQ.next hK21 ?_
                refine JC.ret ?_
                refine JQ.block_ret (JQ.then_ret ?_)
                exact ret1 rfl (r_tmp rfl) fun w hs => by rw [h0, hz]; exact Post.pure hs
              · have hz : chkOk m m older newer p = false := by rw [hz, decide_eq_false (show ¬ p.length = 0 by omega), Bool.false_and]
                refine J.yl (y_move rfl rfl) rfl rfl rfl ?_
                refine J.gno (b := false) rfl rfl rfl rfl rfl rfl ?_
                refine J.gno (b := false) rfl rfl rfl rfl rfl rfl ?_
                refine J.gno (b := false) rfl rfl rfl rfl rfl rfl ?_
                refine J.yl (y_pick rfl rfl (fun h => by cases h) (fun _ => rfl)) rfl rfl rfl ?_
                refine J.callv rfl rfl rfl rfl Tb.cl109 rfl (holds_fn false) ?_
                refine J.yl (y_assign rfl rfl) rfl rfl rfl ?_
                refine J.nil ?_
                refine JQ.next hK21 ?_
                refine JC.ret ?_
                refine JQ.block_ret (JQ.then_ret ?_)
                exact ret1 rfl (r_tmp rfl) fun w hs => by rw [h0, hz]; exact Post.pure hs
            · have hz : chkOk m n older newer p = verdict (dirs m n) older newer p := by unfold chkOk; rw [if_neg (by omega), if_neg (by omega)]
              refine JC.skip ?_
              refine JQ.block_normal (JQ.next hK2 ?_)
              refine JC.seq fun K22 hK22 => ?_
              refine JC.region ?_
              refine J.yl (y_move rfl rfl) rfl rfl rfl ?_
              refine J.yl (y_sub64 rfl rfl rfl (by omega)) rfl rfl rfl ?_
              refine J.yl (y_move rfl rfl) rfl rfl rfl ?_
              refine J.yl (y_sub64 rfl rfl rfl (by omega)) rfl rfl rfl ?_
              refine J.yl (y_assign rfl rfl) rfl rfl rfl ?_
              refine J.yl (y_assign rfl rfl) rfl rfl rfl ?_
              refine J.nil ?_
              refine JQ.next hK22 ?_
              refine JC.seq fun K23 hK23 => ?_
              refine JC.block ?_
              refine JC.loopE (σ := Nat × Nat) (M := fun q => [(11, .int .i64 (q.1 : Int)), (12, .int .i64 (q.2 : Int))]) (kp := [(7, _), (8, _), (9, _)]) (hkp := (okE_cons rfl (okE_cons rfl (okE_cons rfl okE_nil)))) (Dc := fun _ => [.box g9 22 [.slice A j k], .box g8 30 (hc newer), .box g7 30 (hc older)]) (H := fun _ => F) (Ψ := fun q => q.1 ≤ 5000 ∧ q.2 ≤ 5000 ∧ st q.1 q.2 = st (m - 1) (n - 1)) (μ := fun q => q.1) (m - 1, n - 1) ⟨by dsimp only; omega, by dsimp only; omega, rfl⟩ (okE_cons (slotI (by omega)) (okE_cons (slotI (by omega)) okE_nil)) (fun w h => h) (fun sK24 hK24 K24 againK24 => ?_)
              obtain ⟨i, la⟩ := sK24
              dsimp only at hK24 againK24 ⊢
              obtain ⟨hi, hla, hst⟩ := hK24
              refine JC.seq fun K25 hK25 => ?_
              refine JC.seq fun K26 hK26 => ?_
              refine JC.region ?_
              refine J.yl (y_move rfl rfl) rfl rfl rfl ?_
              refine J.yl (y_rem64 rfl rfl rfl (by omega)) rfl rfl rfl ?_
              refine J.yl (y_eq rfl rfl rfl) rfl rfl rfl ?_
              refine J.nil ?_
              refine JQ.next hK26 ?_
              refine JC.condp rfl (fun d7 => ?_) (fun d7 => ?_)
              · refine JC.skip ?_
                refine JQ.next hK25 ?_
                refine JC.block ?_
                refine JC.region ?_
                refine J.yl (y_move rfl rfl) rfl rfl rfl ?_
                refine J.yl (y_quo64 rfl rfl rfl (by omega)) rfl rfl rfl ?_
                refine J.yl (y_move rfl rfl) rfl rfl rfl ?_
                refine J.yl (y_quo64 rfl rfl rfl (by omega)) rfl rfl rfl ?_
                refine J.yl (y_assign rfl rfl) rfl rfl rfl ?_
                refine J.yl (y_assign rfl rfl) rfl rfl rfl ?_
                refine J.nil ?_
                refine JQ.block_normal ?_
                refine againK24 (i / 2, la / 2) _ ⟨by dsimp only; omega, by dsimp only; omega, by dsimp only; rw [← st_odd (by omega)]; exact hst⟩ (by dsimp only; omega) (okE_cons (slotI (by dsimp only; omega)) (okE_cons (slotI (by dsimp only; omega)) okE_nil)) (okE_cons rfl (okE_cons rfl (okE_cons rfl okE_nil)))
              · have hev : (i, la) = st (m - 1) (n - 1) := by rw [← hst, st_even (by omega)]
                refine JC.exit ?_
                refine JQ.then_exit (JQ.then_exit (JQ.block_hit (JQ.next hK23 ?_)))
                refine JC.seq fun K27 hK27 => ?_
                refine JC.region ?_
                refine J.yl (y_funcE rfl rfl rfl) rfl rfl rfl ?_
                refine J.yl (y_assign rfl rfl) rfl rfl rfl ?_
                refine J.nil ?_
                refine JQ.next hK27 ?_
                refine JC.seq fun K28 hK28 => ?_
                refine JC.cutE (σ := Nat × Nat) (M := fun q => [(14, .pointer (some ⟨q.1, 0, none⟩)), (15, .pointer (some ⟨q.2, 0, none⟩))]) (kp := [(7, _), (8, _), (9, _), (11, _), (12, _), (13, _)]) (hkp := (okE_cons rfl (okE_cons rfl (okE_cons rfl (okE_cons rfl (okE_cons rfl (okE_cons rfl okE_nil))))))) (Dc := fun q => [.box q.2 30 (hc older), .box q.1 30 (hc older), .box g9 22 [.slice A j k], .box g8 30 (hc newer), .box g7 30 (hc older)]) (H := fun _ => F) (Ψ := fun _ => True) (fun K29 againK29 => ?_) (fun sK29 hK29 => ?_)
                refine JC.drawM [true, true, true] (by kernel_rfl) ?_
                refine D.take 0 (y_lbW 2 rfl Tb.ag30 Tb.sz30 (hcl _) rfl rfl) rfl rfl rfl rfl (by kernel_rfl) (by kernel_rfl) (by kernel_rfl) (PQ.next (PQ.next PQ.body)) ?_
                refine D.take 1 (y_lbW 2 rfl Tb.ag30 Tb.sz30 (hcl _) rfl rfl) rfl rfl rfl rfl (by kernel_rfl) (by kernel_rfl) (by kernel_rfl) (PQ.next (PQ.next PQ.body)) ?_
                · refine D.two 2 3 (by kernel_rfl) ?_ ?_
                  · refine DS.ofJ rfl fun KhK30 hK30 => ?_
                    refine J.alloc rfl rfl rfl rfl Tb.zz30 rfl fun g14 => ?_
                    refine J.nil ?_
                    refine hK30 _ _ _ (fun w hs => hs.mask [false, true, true, true]) ?_
                    refine D.ofJ 3 (by kernel_rfl) rfl fun KhK31 hK31 => ?_
                    refine J.alloc rfl rfl rfl rfl Tb.zz30 rfl fun g15 => ?_
                    refine J.nil ?_
                    refine hK31 _ _ _ (fun w hs => hs.mask [false, false, true, true, true]) ?_
                    refine D.ofJ 4 (by kernel_rfl) rfl fun KhK32 hK32 => ?_
                    refine J.storeW 1 rfl rfl rfl rfl rfl rfl rfl Tb.sz30 (hcl _) (hcl _) (hc1 _) ?_
                    refine J.nil ?_
                    refine hK32 _ _ _ (fun w hs => hs.mask [false, false, true, true, true]) ?_
                    refine D.ofJ 5 (by kernel_rfl) rfl fun KhK33 hK33 => ?_
                    refine J.storeW 0 rfl rfl rfl rfl rfl rfl rfl Tb.sz30 (hcl _) (hcl _) (hc1 _) ?_
                    refine J.nil ?_
                    refine hK33 _ _ _ (fun w hs => hs.mask [false, false, true, true, true]) ?_
                    refine D.done (by kernel_rfl) ?_
                    refine againK29 (g14, g15) _ trivial (okE_cons rfl (okE_cons rfl okE_nil)) (okE_cons rfl (okE_cons rfl (okE_cons rfl (okE_cons rfl (okE_cons rfl (okE_cons rfl okE_nil))))))
                  · refine DS.ofJ rfl fun KhK34 hK34 => ?_
                    refine J.alloc rfl rfl rfl rfl Tb.zz30 rfl fun g15 => ?_
                    refine J.nil ?_
                    refine hK34 _ _ _ (fun w hs => hs.mask [false, true, true, true]) ?_
                    refine D.ofJ 2 (by kernel_rfl) rfl fun KhK35 hK35 => ?_
                    refine J.alloc rfl rfl rfl rfl Tb.zz30 rfl fun g14 => ?_
                    refine J.nil ?_
                    refine hK35 _ _ _ (fun w hs => hs.mask [false, false, true, true, true]) ?_
                    refine D.ofJ 4 (by kernel_rfl) rfl fun KhK36 hK36 => ?_
                    refine J.storeW 0 rfl rfl rfl rfl rfl rfl rfl Tb.sz30 (hcl _) (hcl _) (hc1 _) ?_
                    refine J.nil ?_
                    refine hK36 _ _ _ (fun w hs => hs.mask [false, false, true, true, true]) ?_
                    refine D.ofJ 5 (by kernel_rfl) rfl fun KhK37 hK37 => ?_
                    refine J.storeW 1 rfl rfl rfl rfl rfl rfl rfl Tb.sz30 (hcl _) (hcl _) (hc1 _) ?_
                    refine J.nil ?_
                    refine hK37 _ _ _ (fun w hs => hs.mask [false, false, true, true, true]) ?_
                    refine D.done (by kernel_rfl) ?_
                    refine JQ.front 1 rfl ?_
                    refine againK29 (g14, g15) _ trivial (okE_cons rfl (okE_cons rfl okE_nil)) (okE_cons rfl (okE_cons rfl (okE_cons rfl (okE_cons rfl (okE_cons rfl (okE_cons rfl okE_nil))))))
                · obtain ⟨g14, g15⟩ := sK29
                  dsimp only at hK29 ⊢
                  obtain _ := hK29
                  refine JQ.next hK28 ?_
                  refine JC.seq fun K38 hK38 => ?_
                  refine JC.seq fun K39 hK39 => ?_
                  refine JC.region ?_
                  refine J.yl (y_move rfl rfl) rfl rfl rfl ?_
                  refine J.yl (y_gt rfl rfl rfl) rfl rfl rfl ?_
                  refine J.nil ?_
                  refine JQ.next hK39 ?_
                  obtain ⟨hup, hpos⟩ := up_dirs n n m (Nat.le_refl _) (by omega) (by omega)
                  rw [← hev] at hup hpos
                  refine JC.cutE (σ := H × H × List H × Option Addr × Nat × Nat) (M := fun _ => []) (kp := [(7, _), (8, _), (9, _), (11, _), (12, _), (13, _), (14, _), (15, _)]) (hkp := (okE_cons rfl (okE_cons rfl (okE_cons rfl (okE_cons rfl (okE_cons rfl (okE_cons rfl (okE_cons rfl (okE_cons rfl okE_nil))))))))) (Dc := fun q => [.box g15 30 (hc q.2.1), .box g14 30 (hc q.1), .box g9 22 [.slice q.2.2.2.1 q.2.2.2.2.1 q.2.2.2.2.2], .box g8 30 (hc newer), .box g7 30 (hc older)]) (H := fun _ => F) (Ψ := fun q => run (dirs m n) q.1 q.2.1 q.2.2.1 = Go.Sx.start (dirs m n) true older p ∧ q.2.2.1.length = q.2.2.2.2.1 ∧ q.2.2.2.2.1 ≤ q.2.2.2.2.2 ∧ ∀ w, F w → Sl w q.2.2.2.1 (hcs q.2.2.1)) (fun K40 againK40 => ?_) (fun sK40 hK40 => ?_)
                  · refine JC.condp rfl (fun e1 => ?_) (fun e1 => ?_)
                    · have ht : true ∈ dirs m n := hpos.1 (by omega)
                      refine JC.seq fun K41 hK41 => ?_
                      refine JC.region ?_
                      refine J.yl (y_move rfl rfl) rfl rfl rfl ?_
                      refine J.front 2 rfl ?_
                      rcases nil_or_cons p with hp | ⟨x, r, hp⟩
                      · have hz : chkOk m n older newer p = false := by rw [hz, verdict, hp, start_nil ht]
                        refine J.callcR (Cin := [_]) rfl rfl rfl rfl rfl Tb.cl110 rfl rfl (next0_fn g9 A j k (by rw [hp] at hj; exact hj.symm)) ?_
                        rintro ⟨⟩ _
                        refine J.yl (y_move rfl rfl) rfl rfl rfl ?_
                        refine J.yl (y_extract rfl rfl rfl) rfl rfl rfl ?_
                        refine J.yl (y_extract rfl rfl rfl) rfl rfl rfl ?_
                        refine J.alloc rfl rfl rfl rfl Tb.zz30 rfl fun g16 => ?_
                        refine J.storeW 0 rfl rfl rfl rfl rfl rfl rfl Tb.sz30 (hcl _) (hcl _) (hc1 _) ?_
                        refine J.yl (y_assign rfl rfl) rfl rfl rfl ?_
                        refine J.nil ?_
                        refine JQ.next hK41 ?_
                        refine JC.seq fun K42 hK42 => ?_
                        refine JC.seq fun K43 hK43 => ?_
                        refine JC.region ?_
                        refine J.yl (y_move rfl rfl) rfl rfl rfl ?_
                        refine J.yl ((y_not rfl rfl).to rfl) rfl rfl rfl ?_
                        refine J.nil ?_
                        refine JQ.next hK43 ?_
                        refine JC.yes rfl ?_
                        refine JC.seq fun K44 hK44 => ?_
                        refine JC.region ?_
                        refine J.yl (y_assign rfl rfl) rfl rfl rfl ?_
                        refine J.nil ?_
                        refine JQ.next hK44 ?_
                        refine JC.ret ?_
                        refine JQ.then_ret (JQ.then_ret (JQ.then_ret ?_))
                        exact ret1 rfl (r_tmp rfl) fun w hs => by rw [h0, hz]; exact Post.pure hs
                      · refine J.callcR (Cin := [_]) rfl rfl rfl rfl rfl Tb.cl110 rfl rfl (next1_fn g9 A j k x r (by rw [hp] at hj; exact hj) hk (fun w h => by rw [← hp]; exact hA w h.1)) ?_
                        rintro ⟨⟩ _
                        refine J.yl (y_move rfl rfl) rfl rfl rfl ?_
                        refine J.yl (y_extract rfl rfl rfl) rfl rfl rfl ?_
                        refine J.yl (y_extract rfl rfl rfl) rfl rfl rfl ?_
                        refine J.alloc rfl rfl rfl rfl Tb.zz30 rfl fun g16 => ?_
                        refine J.storeW 0 rfl rfl rfl rfl rfl rfl rfl Tb.sz30 (hcl _) (hcl _) (hc1 _) ?_
                        refine J.yl (y_assign rfl rfl) rfl rfl rfl ?_
                        refine J.nil ?_
                        refine JQ.next hK41 ?_
                        refine JC.seq fun K45 hK45 => ?_
                        refine JC.seq fun K46 hK46 => ?_
                        refine JC.region ?_
                        refine J.yl (y_move rfl rfl) rfl rfl rfl ?_
                        refine J.yl ((y_not rfl rfl).to rfl) rfl rfl rfl ?_
                        refine J.nil ?_
                        refine JQ.next hK46 ?_
                        refine JC.no rfl ?_
                        refine JC.skip ?_
                        refine JQ.next hK45 ?_
                        refine JC.drawM [true, false, false, false, false, false] (by kernel_rfl) ?_
                        refine D.take 0 (y_lbW 0 rfl Tb.ag30 Tb.sz30 (hcl _) rfl rfl) rfl rfl rfl rfl (by kernel_rfl) (by kernel_rfl) (by kernel_rfl) (PQ.next (PQ.next PQ.body)) ?_
                        refine D.take 1 (y_lbW 0 rfl Tb.ag30 Tb.sz30 (hcl _) rfl rfl) rfl rfl rfl rfl (by kernel_rfl) (by kernel_rfl) (by kernel_rfl) (PQ.next (PQ.next PQ.body)) ?_
                        refine D.ofJ 2 (by kernel_rfl) rfl fun KhK47 hK47 => ?_
                        refine J.storeW 3 rfl rfl rfl rfl rfl rfl rfl Tb.sz30 (hcl _) (hcl _) (hc1 _) ?_
                        refine J.nil ?_
                        refine hK47 _ _ _ (fun w hs => hs.mask [true, false, false, false, false, false]) ?_
                        refine D.ofJ 3 (by kernel_rfl) rfl fun KhK48 hK48 => ?_
                        refine J.storeW 2 rfl rfl rfl rfl rfl rfl rfl Tb.sz30 (hcl _) (hcl _) (hc1 _) ?_
                        refine J.nil ?_
                        refine hK48 _ _ _ (fun w hs => hs.mask [true, false, false, false, false, false]) ?_
                        refine D.done (by kernel_rfl) ?_
                        refine JQ.drop ?_
                        refine JQ.front 2 rfl ?_
                        refine JQ.front 2 rfl ?_
                        refine againK40 (x, x, r, cutA A k 1 32, j - 1, k - 1) _ ⟨by dsimp only; rw [hp, start_cons ht], by dsimp only; rw [hp, List.length_cons] at hj; omega, by dsimp only; omega, fun w h => by have := (hA w h).hdrop 1 k (by omega) (by rw [hp]; simp); rw [hp] at this; exact this⟩ okE_nil (okE_cons rfl (okE_cons rfl (okE_cons rfl (okE_cons rfl (okE_cons rfl (okE_cons rfl (okE_cons rfl (okE_cons rfl okE_nil))))))))
                    · have ht : ¬ true ∈ dirs m n := fun h => e1 (by have := hpos.2 h; omega)
                      refine JC.skip ?_
                      refine againK40 (older, older, p, A, j, k) _ ⟨(start_known ht).symm, hj, hk, hA⟩ okE_nil (okE_cons rfl (okE_cons rfl (okE_cons rfl (okE_cons rfl (okE_cons rfl (okE_cons rfl (okE_cons rfl (okE_cons rfl okE_nil))))))))
                  · obtain ⟨a, b, p', A', j', k'⟩ := sK40
                    dsimp only at hK40 ⊢
                    obtain ⟨hrun, hj', hk', hA'⟩ := hK40
                    refine JQ.next hK38 ?_
                    refine JC.seq fun K49 hK49 => ?_
                    refine JC.block ?_
                    refine JC.loopE (σ := H × H × List H × Option Addr × Nat × Nat × Nat × Nat) (M := fun q => [(11, .int .i64 (q.2.2.2.2.2.2.1 : Int)), (12, .int .i64 (q.2.2.2.2.2.2.2 : Int))]) (kp := [(7, _), (8, _), (9, _), (13, _), (14, _), (15, _)]) (hkp := (okE_cons rfl (okE_cons rfl (okE_cons rfl (okE_cons rfl (okE_cons rfl (okE_cons rfl okE_nil))))))) (Dc := fun q => [.box g15 30 (hc q.2.1), .box g14 30 (hc q.1), .box g9 22 [.slice q.2.2.2.1 q.2.2.2.2.1 q.2.2.2.2.2.1], .box g8 30 (hc newer), .box g7 30 (hc older)]) (H := fun _ => F) (Ψ := fun q => run (up q.2.2.2.2.2.2.1 q.2.2.2.2.2.2.2) q.1 q.2.1 q.2.2.1 = Go.Sx.start (dirs m n) true older p ∧ q.2.2.1.length = q.2.2.2.2.1 ∧ q.2.2.2.2.1 ≤ q.2.2.2.2.2.1 ∧ (∀ w, F w → Sl w q.2.2.2.1 (hcs q.2.2.1)) ∧ q.2.2.2.2.2.2.1 ≤ 5000 ∧ q.2.2.2.2.2.2.2 ≤ 5000) (μ := fun q => q.2.2.2.2.2.2.2) (a, b, p', A', j', k', i, la) ⟨by dsimp only; rw [hup]; exact hrun, hj', hk', hA', hi, hla⟩ (okE_cons rfl (okE_cons rfl okE_nil)) (fun w h => h) (fun sK50 hK50 K50 againK50 => ?_)
                    obtain ⟨a, b, p', A', j', k', i, la⟩ := sK50
                    dsimp only at hK50 againK50 ⊢
                    obtain ⟨hrun, hj', hk', hA', hi, hla⟩ := hK50
                    refine JC.seq fun K51 hK51 => ?_
                    refine JC.seq fun K52 hK52 => ?_
                    refine JC.region ?_
                    refine J.yl (y_move rfl rfl) rfl rfl rfl ?_
                    refine J.yl (y_gt rfl rfl rfl) rfl rfl rfl ?_
                    refine J.nil ?_
                    refine JQ.next hK52 ?_
                    refine JC.condp rfl (fun f1 => ?_) (fun f1 => ?_)
                    · refine JC.skip ?_
                      refine JQ.next hK51 ?_
                      refine JC.block ?_
                      refine JC.seq fun K53 hK53 => ?_
                      refine JC.seq fun K54 hK54 => ?_
                      refine JC.region ?_
                      refine J.yl (y_move rfl rfl) rfl rfl rfl ?_
                      refine J.front 2 rfl ?_
                      rcases nil_or_cons p' with hp | ⟨x, r, hp⟩
                      · have hz : chkOk m n older newer p = false := by rw [hz, verdict, ← hrun, hp, run_nil (by omega)]
                        refine J.callcR (Cin := [_]) rfl rfl rfl rfl rfl Tb.cl110 rfl rfl (next0_fn g9 A' j' k' (by rw [hp] at hj'; exact hj'.symm)) ?_
                        rintro ⟨⟩ _
                        refine J.yl (y_move rfl rfl) rfl rfl rfl ?_
                        refine J.yl (y_extract rfl rfl rfl) rfl rfl rfl ?_
                        refine J.yl (y_extract rfl rfl rfl) rfl rfl rfl ?_
                        refine J.alloc rfl rfl rfl rfl Tb.zz30 rfl fun g18 => ?_
                        refine J.storeW 0 rfl rfl rfl rfl rfl rfl rfl Tb.sz30 (hcl _) (hcl _) (hc1 _) ?_
                        refine J.yl (y_assign rfl rfl) rfl rfl rfl ?_
                        refine J.nil ?_
                        refine JQ.next hK54 ?_
                        refine JC.block ?_
                        refine JC.seq fun K55 hK55 => ?_
                        refine JC.region ?_
                        refine J.yl (y_move rfl rfl) rfl rfl rfl ?_
                        refine J.yl ((y_not rfl rfl).to rfl) rfl rfl rfl ?_
                        refine J.yl (y_assign rfl rfl) rfl rfl rfl ?_
                        refine J.nil ?_
                        refine JQ.next hK55 ?_
                        refine JC.yes rfl ?_
                        refine JC.seq fun K56 hK56 => ?_
                        refine JC.region ?_
                        refine J.yl (y_assign rfl rfl) rfl rfl rfl ?_
                        refine J.nil ?_
                        refine JQ.next hK56 ?_
                        refine JC.ret ?_
                        refine JQ.block_ret (JQ.then_ret (JQ.block_ret (JQ.then_ret (JQ.block_ret (JQ.then_ret ?_)))))
                        exact ret1 rfl (r_tmp rfl) fun w hs => by rw [h0, hz]; exact Post.pure hs
                      · have hrl : r.length + 1 = j' := by rw [hp] at hj'; exact hj'
                        have hA2 : ∀ w, F w → Sl w (cutA A' k' 1 32) (hcs r) := fun w h => by
                          have := (hA' w h).hdrop 1 k' (by omega) (by rw [hp]; simp)
                          rw [hp] at this; exact this
                        refine J.callcR (Cin := [_]) rfl rfl rfl rfl rfl Tb.cl110 rfl rfl (next1_fn g9 A' j' k' x r hrl hk' (fun w h => by rw [← hp]; exact hA' w h.1)) ?_
                        rintro ⟨⟩ _
                        refine J.yl (y_move rfl rfl) rfl rfl rfl ?_
                        refine J.yl (y_extract rfl rfl rfl) rfl rfl rfl ?_
                        refine J.yl (y_extract rfl rfl rfl) rfl rfl rfl ?_
                        refine J.alloc rfl rfl rfl rfl Tb.zz30 rfl fun g18 => ?_
                        refine J.storeW 0 rfl rfl rfl rfl rfl rfl rfl Tb.sz30 (hcl _) (hcl _) (hc1 _) ?_
                        refine J.yl (y_assign rfl rfl) rfl rfl rfl ?_
                        refine J.nil ?_
                        refine JQ.next hK54 ?_
                        refine JC.block ?_
                        refine JC.seq fun K57 hK57 => ?_
                        refine JC.region ?_
                        refine J.yl (y_move rfl rfl) rfl rfl rfl ?_
                        refine J.yl ((y_not rfl rfl).to rfl) rfl rfl rfl ?_
                        refine J.yl (y_assign rfl rfl) rfl rfl rfl ?_
                        refine J.nil ?_
                        refine JQ.next hK57 ?_
                        refine JC.no rfl ?_
                        refine JC.seq fun K58 hK58 => ?_
                        refine JC.cutE (σ := Unit) (M := fun _ => [(108, .bool (decide (i % 2 = 1 ∨ i = la)))]) (kp := [(7, _), (8, _), (9, _), (11, _), (12, _), (13, _), (14, _), (15, _), (18, _)]) (hkp := (okE_cons rfl (okE_cons rfl (okE_cons rfl (okE_cons rfl (okE_cons rfl (okE_cons rfl (okE_cons rfl (okE_cons rfl (okE_cons rfl okE_nil)))))))))) (Dc := fun _ => [.box g18 30 (hc x), .box g9 22 [.slice (cutA A' k' 1 32) (j' - 1) (k' - 1)], .box g15 30 (hc b), .box g14 30 (hc a), .box g8 30 (hc newer), .box g7 30 (hc older)]) (H := fun _ => F) (Ψ := fun _ => True) (fun K59 againK59 => ?_) (fun sK59 hK59 => ?_)
                        refine JC.region ?_
                        refine J.yl (y_move rfl rfl) rfl rfl rfl ?_
                        refine J.yl (y_rem64 rfl rfl rfl (by omega)) rfl rfl rfl ?_
                        · refine J.ylp (y_eq rfl rfl rfl) rfl rfl rfl (fun f2 => ?_) (fun f2 => ?_)
                          · refine J.yl (y_move rfl rfl) rfl rfl rfl ?_
                            refine J.gno (b := true) rfl rfl rfl rfl rfl rfl ?_
                            refine J.gno (b := true) rfl rfl rfl rfl rfl rfl ?_
                            refine J.gno (b := true) rfl rfl rfl rfl rfl rfl ?_
                            refine J.yl (y_pick rfl rfl (fun _ => rfl) (fun h => by cases h)) rfl rfl rfl ?_
                            refine J.yl (y_assign rfl rfl) rfl rfl rfl ?_
                            refine J.nil ?_
                            refine againK59 () _ trivial (okE_cons (slotV (by rw [decide_eq_true (.inl (by omega))])) okE_nil) (okE_cons rfl (okE_cons rfl (okE_cons rfl (okE_cons rfl (okE_cons rfl (okE_cons rfl (okE_cons rfl (okE_cons rfl (okE_cons rfl okE_nil)))))))))
                          · refine J.yl (y_move rfl rfl) rfl rfl rfl ?_
                            refine J.gyes (y_move rfl rfl) rfl rfl rfl rfl rfl rfl ?_
                            refine J.gyes (y_move rfl rfl) rfl rfl rfl rfl rfl rfl ?_
                            refine J.gyes (y_eq rfl rfl rfl) rfl rfl rfl rfl rfl rfl ?_
                            refine J.yl (y_pick rfl rfl (fun h => by cases h) (fun _ => rfl)) rfl rfl rfl ?_
                            refine J.yl (y_assign rfl rfl) rfl rfl rfl ?_
                            refine J.nil ?_
                            refine againK59 () _ trivial (okE_cons (slotV (congrArg Value.bool (decide_eq_decide.2 ⟨fun h => Or.inr (by omega), fun h => by omega⟩))) okE_nil) (okE_cons rfl (okE_cons rfl (okE_cons rfl (okE_cons rfl (okE_cons rfl (okE_cons rfl (okE_cons rfl (okE_cons rfl (okE_cons rfl okE_nil)))))))))
                        · obtain ⟨⟩ := sK59
                          dsimp only at hK59 ⊢
                          obtain _ := hK59
                          refine JQ.next hK58 ?_
                          refine JC.condp rfl (fun f3 => ?_) (fun f3 => ?_)
                          · refine JC.seq fun K60 hK60 => ?_
                            refine JC.draw (by kernel_rfl) ?_
                            refine D.take 0 (y_lbW 0 rfl Tb.ag30 Tb.sz30 (hcl _) rfl rfl) rfl rfl rfl rfl (by kernel_rfl) (by kernel_rfl) (by kernel_rfl) (PQ.next (PQ.block (PQ.next (PQ.block (PQ.next (PQ.block (PQ.next PQ.body))))))) ?_
                            refine D.take 1 (y_lbW 3 rfl Tb.ag30 Tb.sz30 (hcl _) rfl rfl) rfl rfl rfl rfl (by kernel_rfl) (by kernel_rfl) (by kernel_rfl) (PQ.next (PQ.block (PQ.next (PQ.block (PQ.next (PQ.block (PQ.next PQ.body))))))) ?_
                            refine D.take 3 (y_lbW 0 rfl Tb.ag30 Tb.sz30 (hcl _) rfl rfl) rfl rfl rfl rfl (by kernel_rfl) (by kernel_rfl) (by kernel_rfl) (PQ.next (PQ.block (PQ.next (PQ.block (PQ.next (PQ.block (PQ.next PQ.body))))))) ?_
                            refine D.take 4 (y_lbW 2 rfl Tb.ag30 Tb.sz30 (hcl _) rfl rfl) rfl rfl rfl rfl (by kernel_rfl) (by kernel_rfl) (by kernel_rfl) (PQ.next (PQ.block (PQ.next (PQ.block (PQ.next (PQ.block (PQ.next PQ.body))))))) ?_
                            refine D.callv 2 (by kernel_rfl) rfl rfl rfl rfl rfl Tb.cl105 rfl (node_spec x a) ?_
                            refine D.callv 5 (by kernel_rfl) rfl rfl rfl rfl rfl Tb.cl105 rfl (node_spec x b) ?_
                            refine D.ofJ0 6 (by kernel_rfl) rfl (by kernel_rfl) fun KhK62 hK62 => ?_
                            refine J.storeW 3 rfl rfl rfl rfl rfl rfl rfl Tb.sz30 (hcl _) (hcl _) (hc1 _) ?_
                            refine J.nil ?_
                            refine hK62 _ _ _ ?_
                            refine D0.ofJ 7 (by kernel_rfl) rfl (by kernel_rfl) fun KhK63 hK63 => ?_
                            refine J.storeW 2 rfl rfl rfl rfl rfl rfl rfl Tb.sz30 (hcl _) (hcl _) (hc1 _) ?_
                            refine J.nil ?_
                            refine hK63 _ _ _ ?_
                            refine D0.done (by kernel_rfl) ?_
                            refine JQ.next hK60 ?_
                            refine JC.block ?_
                            refine JC.loopE (σ := Nat × Nat) (M := fun q => [(11, .int .i64 (q.1 : Int)), (12, .int .i64 (q.2 : Int))]) (kp := [(7, _), (8, _), (9, _), (13, _), (14, _), (15, _)]) (hkp := (okE_cons rfl (okE_cons rfl (okE_cons rfl (okE_cons rfl (okE_cons rfl (okE_cons rfl okE_nil))))))) (Dc := fun _ => [.box g18 30 (hc x), .box g9 22 [.slice (cutA A' k' 1 32) (j' - 1) (k' - 1)], .box g15 30 (hc (node x b)), .box g14 30 (hc (node x a)), .box g8 30 (hc newer), .box g7 30 (hc older)]) (H := fun _ => F) (Ψ := fun q => q.1 ≤ 5000 ∧ q.2 ≤ la ∧ evn q.1 q.2 = evn i la) (μ := fun q => q.1) (i, la) ⟨hi, Nat.le_refl _, rfl⟩ (okE_cons rfl (okE_cons rfl okE_nil)) (fun w h => h) (fun sK64 hK64 K64 againK64 => ?_)
                            obtain ⟨i1, la1⟩ := sK64
                            dsimp only at hK64 againK64 ⊢
                            obtain ⟨hi1, hla1, hev1⟩ := hK64
                            refine JC.seq fun K65 hK65 => ?_
                            refine JC.seq fun K66 hK66 => ?_
                            refine JC.cutE (σ := Unit) (M := fun _ => [(129, .bool (decide (i1 % 2 = 0 ∧ 0 < i1)))]) (kp := [(7, _), (8, _), (9, _), (11, _), (12, _), (13, _), (14, _), (15, _)]) (hkp := (okE_cons rfl (okE_cons rfl (okE_cons rfl (okE_cons rfl (okE_cons rfl (okE_cons rfl (okE_cons rfl (okE_cons rfl okE_nil))))))))) (Dc := fun _ => [.box g18 30 (hc x), .box g9 22 [.slice (cutA A' k' 1 32) (j' - 1) (k' - 1)], .box g15 30 (hc (node x b)), .box g14 30 (hc (node x a)), .box g8 30 (hc newer), .box g7 30 (hc older)]) (H := fun _ => F) (Ψ := fun _ => True) (fun K67 againK67 => ?_) (fun sK67 hK67 => ?_)
                            refine JC.region ?_
                            refine J.yl (y_move rfl rfl) rfl rfl rfl ?_
                            refine J.yl (y_rem64 rfl rfl rfl (by omega)) rfl rfl rfl ?_
                            · refine J.ylp (y_eq rfl rfl rfl) rfl rfl rfl (fun f4 => ?_) (fun f4 => ?_)
                              · refine J.yl (y_move rfl rfl) rfl rfl rfl ?_
                                refine J.gyes (y_move rfl rfl) rfl rfl rfl rfl rfl rfl ?_
                                refine J.gyes (y_gt rfl rfl rfl) rfl rfl rfl rfl rfl rfl ?_
                                refine J.yl (y_pick rfl rfl (fun _ => rfl) (fun h => by cases h)) rfl rfl rfl ?_
                                refine J.nil ?_
                                refine againK67 () _ trivial (okE_cons (slotV (congrArg Value.bool (decide_eq_decide.2 ⟨fun h => ⟨by omega, by omega⟩, fun h => by omega⟩))) okE_nil) (okE_cons rfl (okE_cons rfl (okE_cons rfl (okE_cons rfl (okE_cons rfl (okE_cons rfl (okE_cons rfl (okE_cons rfl okE_nil))))))))
                              · refine J.yl (y_move rfl rfl) rfl rfl rfl ?_
                                refine J.gno (b := false) rfl rfl rfl rfl rfl rfl ?_
                                refine J.gno (b := false) rfl rfl rfl rfl rfl rfl ?_
                                refine J.yl (y_pick rfl rfl (fun h => by cases h) (fun _ => rfl)) rfl rfl rfl ?_
                                refine J.nil ?_
                                refine againK67 () _ trivial (okE_cons (slotV (by rw [decide_eq_false (by omega)])) okE_nil) (okE_cons rfl (okE_cons rfl (okE_cons rfl (okE_cons rfl (okE_cons rfl (okE_cons rfl (okE_cons rfl (okE_cons rfl okE_nil))))))))
                            · obtain ⟨⟩ := sK67
                              dsimp only at hK67 ⊢
                              obtain _ := hK67
                              refine JQ.next hK66 ?_
                              refine JC.condp rfl (fun f5 => ?_) (fun f5 => ?_)
                              · refine JC.skip ?_
                                refine JQ.next hK65 ?_
                                refine JC.block ?_
                                refine JC.region ?_
                                refine J.yl (y_move rfl rfl) rfl rfl rfl ?_
                                refine J.yl (y_quo64 rfl rfl rfl (by omega)) rfl rfl rfl ?_
                                refine J.yl (y_move rfl rfl) rfl rfl rfl ?_
                                refine J.yl (y_quo64 rfl rfl rfl (by omega)) rfl rfl rfl ?_
                                refine J.yl (y_assign rfl rfl) rfl rfl rfl ?_
                                refine J.yl (y_assign rfl rfl) rfl rfl rfl ?_
                                refine J.nil ?_
                                refine JQ.block_normal ?_
                                refine againK64 (i1 / 2, la1 / 2) _ ⟨by dsimp only; omega, by dsimp only; omega, by dsimp only; rw [← evn_even f5]; exact hev1⟩ (by dsimp only; omega) (okE_cons (slotI (by dsimp only; omega)) (okE_cons (slotI (by dsimp only; omega)) okE_nil)) (okE_cons rfl (okE_cons rfl (okE_cons rfl (okE_cons rfl (okE_cons rfl (okE_cons rfl okE_nil))))))
                              · have hev2 : (i1, la1) = evn i la := by rw [← hev1, evn_stop f5]
                                have hrun2 : run (up (i1 / 2) (la1 / 2)) (node x a) (node x b) r = Go.Sx.start (dirs m n) true older p := by
                                  rw [← hrun, hp, up_R (by omega) f3, ← hev2]; rfl
                                refine JC.exit ?_
                                refine JQ.then_exit (JQ.then_exit (JQ.block_hit (JQ.block_normal (JQ.next hK53 ?_))))
                                refine JC.region ?_
                                refine J.yl (y_move rfl rfl) rfl rfl rfl ?_
                                refine J.yl (y_quo64 rfl rfl rfl (by omega)) rfl rfl rfl ?_
                                refine J.yl (y_move rfl rfl) rfl rfl rfl ?_
                                refine J.yl (y_quo64 rfl rfl rfl (by omega)) rfl rfl rfl ?_
                                refine J.yl (y_assign rfl rfl) rfl rfl rfl ?_
                                refine J.yl (y_assign rfl rfl) rfl rfl rfl ?_
                                refine J.nil ?_
                                refine JQ.block_normal ?_
                                refine JQ.drop ?_
                                refine JQ.front 2 rfl ?_
                                refine JQ.front 2 rfl ?_
                                refine againK50 (node x a, node x b, r, cutA A' k' 1 32, j' - 1, k' - 1, i1 / 2, la1 / 2) _ ⟨hrun2, by dsimp only; omega, by dsimp only; omega, hA2, by dsimp only; omega, by dsimp only; omega⟩ (by dsimp only; omega) (okE_cons (slotI (by dsimp only; omega)) (okE_cons (slotI (by dsimp only; omega)) okE_nil)) (okE_cons rfl (okE_cons rfl (okE_cons rfl (okE_cons rfl (okE_cons rfl (okE_cons rfl okE_nil))))))
                          · have hrun2 : run (up (i / 2) (la / 2)) a (node b x) r = Go.Sx.start (dirs m n) true older p := by
                              rw [← hrun, hp, up_L (by omega) f3]; rfl
                            refine JC.region ?_
                            refine J.yl (y_lbW 2 rfl Tb.ag30 Tb.sz30 (hcl _) rfl rfl) rfl rfl rfl ?_
                            refine J.yl (y_lbW 0 rfl Tb.ag30 Tb.sz30 (hcl _) rfl rfl) rfl rfl rfl ?_
                            refine J.callv rfl rfl rfl rfl Tb.cl105 rfl (node_spec b x) ?_
                            refine J.storeW 2 rfl rfl rfl rfl rfl rfl rfl Tb.sz30 (hcl _) (hcl _) (hc1 _) ?_
                            refine J.nil ?_
                            refine JQ.block_normal (JQ.next hK53 ?_)
                            refine JC.region ?_
                            refine J.yl (y_move rfl rfl) rfl rfl rfl ?_
                            refine J.yl (y_quo64 rfl rfl rfl (by omega)) rfl rfl rfl ?_
                            refine J.yl (y_move rfl rfl) rfl rfl rfl ?_
                            refine J.yl (y_quo64 rfl rfl rfl (by omega)) rfl rfl rfl ?_
                            refine J.yl (y_assign rfl rfl) rfl rfl rfl ?_
                            refine J.yl (y_assign rfl rfl) rfl rfl rfl ?_
                            refine J.nil ?_
                            refine JQ.block_normal ?_
                            refine JQ.drop ?_
                            refine JQ.front 2 rfl ?_
                            refine JQ.front 2 rfl ?_
                            refine againK50 (a, node b x, r, cutA A' k' 1 32, j' - 1, k' - 1, i / 2, la / 2) _ ⟨hrun2, by dsimp only; omega, by dsimp only; omega, hA2, by dsimp only; omega, by dsimp only; omega⟩ (by dsimp only; omega) (okE_cons (slotI (by dsimp only; omega)) (okE_cons (slotI (by dsimp only; omega)) okE_nil)) (okE_cons rfl (okE_cons rfl (okE_cons rfl (okE_cons rfl (okE_cons rfl (okE_cons rfl okE_nil))))))
                    · have hz : chkOk m n older newer p = (decide (p'.length = 0) && (decide (a = older) && decide (b = newer))) := by rw [hz]; exact verdict_end hrun (by omega)
                      refine JC.exit ?_
                      refine JQ.then_exit (JQ.then_exit (JQ.block_hit (JQ.next hK49 ?_)))
                      refine JC.seq fun K68 hK68 => ?_
                      refine JC.region ?_
                      refine J.yl (y_lb 2 rfl Tb.ag22 rfl rfl rfl) rfl rfl rfl ?_
                      refine J.yl (y_len rfl Tryd.underlying22 rfl) rfl rfl rfl ?_
                      refine J.ylp (y_eq rfl rfl rfl) rfl rfl rfl (fun g1 => ?_) (fun g1 => ?_)
                      · have hz : chkOk m n older newer p = (decide (a = older) && decide (b = newer)) := by rw [hz, decide_eq_true (show p'.length = 0 by omega), Bool.true_and]
                        refine J.yl (y_move rfl rfl) rfl rfl rfl ?_
                        refine J.gyes (y_lbW 1 rfl Tb.ag30 Tb.sz30 (hcl _) rfl rfl) rfl rfl rfl rfl rfl rfl ?_
                        refine J.gyes (y_lbW 4 rfl Tb.ag30 Tb.sz30 (hcl _) rfl rfl) rfl rfl rfl rfl rfl rfl ?_
                        refine J.ypG (y_heq rfl Tryd.underlying30 Tryd.underlying5 Tb.ag5 Tb.sz5 Tb.eg30 rfl rfl) rfl rfl rfl rfl rfl rfl (fun g2 => ?_) (fun g2 => ?_)
                        · have hz : chkOk m n older newer p = decide (b = newer) := by rw [hz, decide_eq_true (show a = older from g2), Bool.true_and]
                          refine J.yl (y_pick rfl rfl (fun _ => rfl) (fun h => by cases h)) rfl rfl rfl ?_
                          refine J.yl (y_move rfl rfl) rfl rfl rfl ?_
                          refine J.gyes (y_lbW 0 rfl Tb.ag30 Tb.sz30 (hcl _) rfl rfl) rfl rfl rfl rfl rfl rfl ?_
                          refine J.gyes (y_lbW 3 rfl Tb.ag30 Tb.sz30 (hcl _) rfl rfl) rfl rfl rfl rfl rfl rfl ?_
                          refine J.gyes (y_heq rfl Tryd.underlying30 Tryd.underlying5 Tb.ag5 Tb.sz5 Tb.eg30 rfl rfl) rfl rfl rfl rfl rfl rfl ?_
                          refine J.yl (y_pick rfl rfl (fun _ => rfl) (fun h => by cases h)) rfl rfl rfl ?_
                          refine J.callv rfl rfl rfl rfl Tb.cl109 rfl (holds_fn (decide (b = newer))) ?_
                          refine J.yl (y_assign rfl rfl) rfl rfl rfl ?_
                          refine J.nil ?_
                          refine JQ.next hK68 ?_
                          refine JC.ret ?_
                          exact ret1 rfl (r_tmp rfl) fun w hs => by rw [h0, hz]; exact Post.pure hs
                        · have hz : chkOk m n older newer p = false := by rw [hz, decide_eq_false (show ¬ a = older from g2), Bool.false_and]
                          refine J.yl (y_pick rfl rfl (fun _ => rfl) (fun h => by cases h)) rfl rfl rfl ?_
                          refine J.yl (y_move rfl rfl) rfl rfl rfl ?_
                          refine J.gno (b := false) rfl rfl rfl rfl rfl rfl ?_
                          refine J.gno (b := false) rfl rfl rfl rfl rfl rfl ?_
                          refine J.gno (b := false) rfl rfl rfl rfl rfl rfl ?_
                          refine J.yl (y_pick rfl rfl (fun h => by cases h) (fun _ => rfl)) rfl rfl rfl ?_
                          refine J.callv rfl rfl rfl rfl Tb.cl109 rfl (holds_fn false) ?_
                          refine J.yl (y_assign rfl rfl) rfl rfl rfl ?_
                          refine J.nil ?_
                          refine JQ.next hK68 ?_
                          refine JC.ret ?_
                          exact ret1 rfl (r_tmp rfl) fun w hs => by rw [h0, hz]; exact Post.pure hs
                      · have hz : chkOk m n older newer p = false := by rw [hz, decide_eq_false (show ¬ p'.length = 0 by omega), Bool.false_and]
                        refine J.yl (y_move rfl rfl) rfl rfl rfl ?_
                        refine J.gno (b := false) rfl rfl rfl rfl rfl rfl ?_
                        refine J.gno (b := false) rfl rfl rfl rfl rfl rfl ?_
                        refine J.gno (b := false) rfl rfl rfl rfl rfl rfl ?_
                        refine J.yl (y_pick rfl rfl (fun h => by cases h) (fun _ => rfl)) rfl rfl rfl ?_
                        refine J.yl (y_move rfl rfl) rfl rfl rfl ?_
                        refine J.gno (b := false) rfl rfl rfl rfl rfl rfl ?_
                        refine J.gno (b := false) rfl rfl rfl rfl rfl rfl ?_
                        refine J.gno (b := false) rfl rfl rfl rfl rfl rfl ?_
                        refine J.yl (y_pick rfl rfl (fun h => by cases h) (fun _ => rfl)) rfl rfl rfl ?_
                        refine J.callv rfl rfl rfl rfl Tb.cl109 rfl (holds_fn false) ?_
                        refine J.yl (y_assign rfl rfl) rfl rfl rfl ?_
                        refine J.nil ?_
                        refine JQ.next hK68 ?_
                        refine JC.ret ?_
                        exact ret1 rfl (r_tmp rfl) fun w hs => by rw [h0, hz]; exact Post.pure hs
end Go.Proofs.YtjkfeonbioccmaaDoor
