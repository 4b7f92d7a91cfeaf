/- Speculum proofs: contracts of the hash's functions: the sums. -/
import Derived.Test.YtjkfeonbioccmaaDoorShaF
namespace Go.Proofs.YtjkfeonbioccmaaDoor
open Go Go.Sx Go.RowKit
set_option linter.unusedVariables false
set_option linter.unusedSimpArgs false
set_option maxRecDepth 100000
set_option maxHeartbeats 4000000
variable {Gl F : World → Prop}

theorem sum_spec (hG : ∀ w, Gl w → glS 0 1 w) (s : List UInt8) (hl : s.length ≤ 1000000000) : PureFn Tryd.prog Gl 113 [str s] F (hv (sha s)) := by
  have h64 := padded_64 s
  have hlp := length_padded s
  have hpn : padN s.length < 64 := by unfold padN; omega
  refine FnSpec.intro Tryd.func113 rfl Tryd.ntmps113 rfl fun X M w => ?_
  refine JC.seq fun K1 hK1 => ?_
  refine JC.region ?_
  refine J.alloc rfl rfl rfl rfl Tb.zz30 rfl fun g2 => ?_
  refine J.nil ?_
  refine JQ.next hK1 ?_
  refine JC.seq fun K2 hK2 => ?_
  refine JC.region ?_
  refine J.yl (y_loadA (vs := vc v0) rfl Tb.ag204 Tb.sz204 rfl (fun w hs => (hG w hs.glob).1)) rfl rfl rfl ?_
  refine J.alloc rfl rfl rfl rfl Tb.zz204 rfl fun g3 => ?_
  refine J.storeW 0 rfl rfl rfl rfl rfl rfl rfl Tb.sz204 (by first | (simp [length_wl]; done) | rfl) (by first | (simp [length_wl]; done) | rfl) (by first | exact u32s1 _ | exact one_vc _ | (simp; done) | (intro u hu; simp only [List.mem_cons, List.not_mem_nil, or_false] at hu; rcases hu with rfl | rfl <;> rfl)) ?_
  refine J.nil ?_
  refine JQ.next hK2 ?_
  refine JC.seq fun K3 hK3 => ?_
  refine JC.seq fun K4 hK4 => ?_
  refine JC.region ?_
  refine J.yl (y_move rfl rfl) rfl rfl rfl ?_
  refine J.callv rfl rfl rfl rfl Tb.cl163 rfl (filled_spec s hl) ?_
  refine J.yl (y_assign rfl rfl) rfl rfl rfl ?_
  refine J.nil ?_
  refine JQ.next hK4 ?_
  refine JC.block ?_
  refine JC.loopE (σ := V8 × List UInt8) (M := fun s => [(4, str s.2)]) (kp := [(2, _), (3, _)]) (hkp := (okE_cons rfl (okE_cons rfl okE_nil))) (Dc := fun s => [.box g3 204 (vc s.1), .box g2 30 (hc H.zero)]) (H := fun _ => F) (Ψ := fun q => q.2.length % 64 = 0 ∧ q.2.length ≤ 1000000200 ∧ bls (q.2.length / 64) q.1 q.2 = bls ((padded s).length / 64) v0 (padded s)) (μ := fun s => s.2.length) (v0, padded s) ⟨h64, by dsimp only; omega, rfl⟩ (okE_cons rfl okE_nil) (fun w h => h) (fun sK5 hK5 K5 againK5 => ?_)
  obtain ⟨v, t⟩ := sK5
  dsimp only at hK5 againK5 ⊢
  obtain ⟨h1, h2, h3⟩ := hK5
  refine JC.seq fun K6 hK6 => ?_
  refine JC.seq fun K7 hK7 => ?_
  refine JC.region ?_
  refine J.yl (y_move rfl rfl) rfl rfl rfl ?_
  refine J.yl (y_sne (b := []) rfl rfl rfl) rfl rfl rfl ?_
  refine J.nil ?_
  refine JQ.next hK7 ?_
  refine JC.condn rfl (fun h4 => ?_) (fun h4 => ?_)
  · have h5 : 64 ≤ t.length := by
      have : t.length ≠ 0 := by simpa using h4
      omega
    refine JC.skip ?_
    refine JQ.next hK6 ?_
    refine JC.seq fun K8 hK8 => ?_
    refine JC.block ?_
    refine JC.draw (by kernel_rfl) ?_
    refine D.take 0 (y_lbW 0 rfl Tb.ag204 Tb.sz204 (by first | (simp [length_wl]; done) | rfl) rfl rfl) rfl rfl rfl rfl (by kernel_rfl) (by kernel_rfl) (by kernel_rfl) (PQ.block (PQ.next (PQ.next (PQ.block (PQ.next PQ.body))))) ?_
    refine D.take 1 (y_move rfl rfl) rfl rfl rfl rfl (by kernel_rfl) (by kernel_rfl) (by kernel_rfl) (PQ.block (PQ.next (PQ.next (PQ.block (PQ.next PQ.body))))) ?_
    refine D.take 2 (y_stoN 64 rfl Tryd.underlying9 rfl rfl rfl h5) rfl rfl rfl rfl (by kernel_rfl) (by kernel_rfl) (by kernel_rfl) (PQ.block (PQ.next (PQ.next (PQ.block (PQ.next PQ.body))))) ?_
    refine D.callv 3 (by kernel_rfl) rfl rfl rfl rfl rfl Tb.cl164 rfl (mix_spec (fun w h => (hG w h).2) _ _ (by simp; omega)) ?_
    refine D.storeW 4 0 (by kernel_rfl) rfl (by kernel_rfl) (by kernel_rfl) rfl rfl rfl rfl rfl rfl rfl Tb.sz204  (by first | (simp [length_wl]; done) | rfl) (by first | (simp [length_wl]; done) | rfl) (by first | exact u32s1 _ | exact one_vc _ | (simp; done) | (intro u hu; simp only [List.mem_cons, List.not_mem_nil, or_false] at hu; rcases hu with rfl | rfl <;> rfl)) ?_
    refine JQ.block_normal (JQ.next hK8 ?_)
    refine JC.region ?_
    refine J.yl (y_move rfl rfl) rfl rfl rfl ?_
    refine J.yl (y_sfromN 64 rfl Tryd.underlying9 rfl rfl rfl h5) rfl rfl rfl ?_
    refine J.yl (y_assign rfl rfl) rfl rfl rfl ?_
    refine J.nil ?_
    refine againK5 (comp v (t.take 64), t.drop 64) _ ⟨by simp; omega, by simp; omega, by rw [← bls_step v t h5]; exact h3⟩ (by simp; omega) (okE_cons rfl okE_nil) (okE_cons rfl (okE_cons rfl okE_nil))
  · have h5 : t = [] := by simpa using h4
    subst h5
    have h6 : v = bls ((padded s).length / 64) v0 (padded s) := h3
    subst h6
    refine JC.exit ?_
    refine JQ.then_exit (JQ.then_exit (JQ.block_hit (JQ.next hK3 ?_)))
    refine JC.seq fun K10 hK10 => ?_
    refine JC.region ?_
    refine J.alloc rfl rfl rfl rfl Tb.zz30 rfl fun g5 => ?_
    refine J.nil ?_
    refine JQ.next hK10 ?_
    refine JC.seq fun K11 hK11 => ?_
    refine JC.seq fun K12 hK12 => ?_
    refine JC.region ?_
    refine J.yl (y_lbW 1 rfl Tb.ag204 Tb.sz204 (by first | (simp [length_wl]; done) | rfl) rfl rfl) rfl rfl rfl ?_
    refine J.yl (y_move rfl rfl) rfl rfl rfl ?_
    refine J.nil ?_
    refine JQ.next hK12 ?_
    refine JC.block ?_
    generalize hv' : bls ((padded s).length / 64) v0 (padded s) = v
    refine JC.loopE (σ := Nat) (M := fun i => [(20, .int .i64 (i : Int))]) (kp := [(2, _), (3, _), (5, _), (19, _)]) (hkp := (okE_cons rfl (okE_cons rfl (okE_cons rfl (okE_cons rfl okE_nil))))) (Dc := fun i => [.box g5 30 (((out v).take (4 * i) ++ List.replicate (32 - 4 * i) 0).map u8), .box g3 204 (vc v), .box g2 30 (hc H.zero)]) (H := fun _ => F) (Ψ := fun i => i ≤ 8) (μ := fun i => 8 - i) 0 (by omega) (okE_cons rfl okE_nil) (fun w h => h) (fun i hi K13 againK13 => ?_)
    refine JC.seq fun K14 hK14 => ?_
    refine JC.region ?_
    refine J.yl (y_lt rfl rfl rfl) rfl rfl rfl ?_
    refine J.nil ?_
    refine JQ.next hK14 ?_
    refine JC.seq fun K15 hK15 => ?_
    refine JC.condp rfl (fun h7 => ?_) (fun h7 => ?_)
    · refine JC.skip ?_
      refine JQ.next hK15 ?_
      refine JC.seq fun K16 hK16 => ?_
      refine JC.block ?_
      refine JC.seq fun K17 hK17 => ?_
      refine JC.region ?_
      refine J.yl (y_move rfl rfl) rfl rfl rfl ?_
      refine J.yl (y_ielemN i rfl Tryd.underlying204 Tb.ag202 Tb.sz202 rfl rfl rfl (by omega) (l_get v i (by omega))) rfl rfl rfl ?_
      refine J.yl (y_assign rfl rfl) rfl rfl rfl ?_
      refine J.yl (y_assign rfl rfl) rfl rfl rfl ?_
      refine J.nil ?_
      refine JQ.next hK17 ?_
      refine JC.drawM [false, false, false] (by kernel_rfl) ?_
      refine D.take 0 (y_move rfl rfl) rfl rfl rfl rfl (by kernel_rfl) (by kernel_rfl) (by kernel_rfl) (PQ.block (PQ.next (PQ.next (PQ.block (PQ.next PQ.body))))) ?_
      refine D.take 1 (y_mul64 rfl rfl rfl (by omega)) rfl rfl rfl rfl (by kernel_rfl) (by kernel_rfl) (by kernel_rfl) (PQ.block (PQ.next (PQ.next (PQ.block (PQ.next PQ.body))))) ?_
      refine D.take 3 (y_move rfl rfl) rfl rfl rfl rfl (by kernel_rfl) (by kernel_rfl) (by kernel_rfl) (PQ.block (PQ.next (PQ.next (PQ.block (PQ.next PQ.body))))) ?_
      refine D.take 4 (y_32to64 rfl (isS Tryd.underlying202) Tryd.underlying212 rfl) rfl rfl rfl rfl (by kernel_rfl) (by kernel_rfl) (by kernel_rfl) (PQ.block (PQ.next (PQ.next (PQ.block (PQ.next PQ.body))))) ?_
      refine D.take 2 (y_cutarr1 (4 * i) rfl Tryd.underlying30 Tb.sz5 rfl rfl (by omega) (by omega)) rfl rfl rfl rfl (by kernel_rfl) (by kernel_rfl) (by kernel_rfl) (PQ.block (PQ.next (PQ.next (PQ.block (PQ.next PQ.body))))) ?_
      refine D.ofJ 5 (by kernel_rfl) rfl fun KhK19 hK19 => ?_
      refine J.callv rfl rfl rfl rfl Tb.cl165 rfl (put_spec _ 4 (by omega)) ?_
      refine J.nil ?_
      refine hK19 _ _ _ (fun w hs => hs.mask [false, false, false]) ?_
      refine D.ofJ 6 (by kernel_rfl) rfl fun KhK21 hK21 => ?_
      refine J.copyS (m := 4) (cs' := ((out v).take (4 * (i + 1)) ++ List.replicate (32 - 4 * (i + 1)) 0).map u8) 0 rfl rfl rfl rfl rfl rfl Tryd.underlying205 Tb.sz5 rfl (by rw [length_putB]; omega) (by simp [length_out]; omega) (out_step v i (by omega)) ?_
      refine J.nil ?_
      refine hK21 _ _ _ (fun w hs => hs.mask [false, false, false]) ?_
      refine D.done (by kernel_rfl) ?_
      refine JQ.block_normal (JQ.next hK16 ?_)
      refine JC.region ?_
      refine J.yl (y_add64 rfl rfl rfl (by omega)) rfl rfl rfl ?_
      refine J.yl (y_move rfl rfl) rfl rfl rfl ?_
      refine J.nil ?_
      refine againK13 (i + 1) _ (by omega) (by omega) (okE_cons rfl okE_nil) (okE_cons rfl (okE_cons rfl (okE_cons rfl (okE_cons rfl okE_nil))))
    · obtain rfl : i = 8 := by omega
      have he : ((out v).take (4 * 8) ++ List.replicate (32 - 4 * 8) 0).map u8 = hc ⟨out v, length_out v⟩ := by
        rw [List.take_of_length_le (by rw [length_out]; decide)]; simp [hc]
      rw [he]
      have hsha : sha s = ⟨out v, length_out v⟩ := by subst hv'; rfl
      refine JC.exit ?_
      refine JQ.then_exit (JQ.then_exit (JQ.block_hit (JQ.next hK11 ?_)))
      refine JC.seq fun K22 hK22 => ?_
      refine JC.region ?_
      refine J.yl (y_lbW 0 rfl Tb.ag30 Tb.sz30 (hcl _) rfl rfl) rfl rfl rfl ?_
      refine J.storeW 2 rfl rfl rfl rfl rfl rfl rfl Tb.sz30 (hcl _) (hcl _) (hc1 _) ?_
      refine J.nil ?_
      refine JQ.next hK22 ?_
      refine JC.ret ?_
      exact ret1 rfl (r_cellA 2 rfl rfl Tb.ag30 (by rw [hcl]; exact Tb.sz30)) fun w hs => by rw [hsha]; exact Post.pure hs
end Go.Proofs.YtjkfeonbioccmaaDoor
