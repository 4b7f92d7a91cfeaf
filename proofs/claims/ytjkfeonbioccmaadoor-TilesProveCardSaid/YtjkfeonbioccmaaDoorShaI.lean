/- Speculum proofs: contracts of the reference's hash: its sum. -/
import Derived.Test.YtjkfeonbioccmaaDoorShaH
namespace Go.Proofs.YtjkfeonbioccmaaDoor
open Go Go.Sx Go.RowKit
set_option linter.unusedVariables false
set_option linter.unusedSimpArgs false
set_option maxRecDepth 100000
set_option maxHeartbeats 4000000
variable {Gl F : World → Prop}

theorem rsum_spec (s : List UInt8) (hl : s.length ≤ 1000000000) : PureFn Tryd.prog Gl 111 [str s] F (hv (sha s)) := by
  have hlp := length_padded s
  have hpn : padN s.length < 64 := by unfold padN; omega
  have h64 := padded_64 s
  refine FnSpec.intro Tryd.func111 rfl Tryd.ntmps111 rfl fun X M w => ?_
  refine JC.seq fun K1 hK1 => ?_
  refine JC.region ?_
  refine J.alloc rfl rfl rfl rfl Tb.zz30 rfl fun g2 => ?_
  refine J.nil ?_
  refine JQ.next hK1 ?_
  refine JC.seq fun K2 hK2 => ?_
  refine JC.region ?_
  refine J.yl (y_buildA (cs := kk.map u32) rfl Tryd.underlying203 Tb.zz203 Tb.sz202 rfl fillK) rfl rfl rfl ?_
  refine J.alloc rfl rfl rfl rfl Tb.zz203 rfl fun g3 => ?_
  refine J.storeW 0 rfl rfl rfl rfl rfl rfl rfl Tb.sz203 (by first | (simp [length_wl]; done) | rfl) (by first | (simp [length_wl]; done) | rfl) (by first | exact u32s1 _ | exact one_vc _ | (simp; done) | (intro u hu; simp only [List.mem_cons, List.not_mem_nil, or_false] at hu; rcases hu with rfl | rfl <;> rfl)) ?_
  refine J.nil ?_
  refine JQ.next hK2 ?_
  refine JC.seq fun K3 hK3 => ?_
  refine JC.region ?_
  refine J.yl (y_buildA (cs := vc v0) rfl Tryd.underlying204 Tb.zz204 Tb.sz202 rfl (fill8 v0)) rfl rfl rfl ?_
  refine J.alloc rfl rfl rfl rfl Tb.zz204 rfl fun g4 => ?_
  refine J.storeW 0 rfl rfl rfl rfl rfl rfl rfl Tb.sz204 (by first | (simp [length_wl]; done) | rfl) (by first | (simp [length_wl]; done) | rfl) (by first | exact u32s1 _ | exact one_vc _ | (simp; done) | (intro u hu; simp only [List.mem_cons, List.not_mem_nil, or_false] at hu; rcases hu with rfl | rfl <;> rfl)) ?_
  refine J.nil ?_
  refine JQ.next hK3 ?_
  refine JC.seq fun K4 hK4 => ?_
  refine JC.region ?_
  refine J.yl (y_move rfl rfl) rfl rfl rfl ?_
  refine J.callR (Cin := []) rfl rfl rfl rfl Tb.cl161 rfl rfl (pad_spec s hl) ?_
  rintro ⟨A, kc⟩ _
  refine J.yl (y_assign rfl rfl) rfl rfl rfl ?_
  refine J.nil ?_
  refine JQ.next hK4 ?_
  refine JC.seq fun K5 hK5 => ?_
  refine JC.region ?_
  refine J.alloc rfl rfl rfl rfl Tb.zz203 rfl fun g6 => ?_
  refine J.nil ?_
  refine JQ.next hK5 ?_
  refine JC.seq fun K6 hK6 => ?_
  refine JC.seq fun K7 hK7 => ?_
  refine JC.region ?_
  refine J.yl (y_assign rfl rfl) rfl rfl rfl ?_
  refine J.nil ?_
  refine JQ.next hK7 ?_
  refine JC.block ?_
  have hne : (padded s).map u8 ≠ [] := by
    intro h
    have := congrArg List.length h
    rw [List.length_map, hlp] at this
    simp at this
  refine JC.loopE (σ := Nat × V8 × List UInt32) (M := fun q => [(7, .int .i64 ((64 * q.1 : Nat) : Int))]) (kp := [(2, _), (3, _), (4, _), (5, _), (6, _)]) (hkp := (okE_cons rfl (okE_cons rfl (okE_cons rfl (okE_cons rfl (okE_cons rfl okE_nil)))))) (Dc := fun q => [.box g6 203 (q.2.2.map u32), .fro (.slice A (padded s).length kc) 5 (padded s).length ((padded s).map u8), .box g4 204 (vc q.2.1), .box g3 203 (kk.map u32), .box g2 30 (hc H.zero)]) (H := fun _ => F) (Ψ := fun q => 64 * q.1 ≤ (padded s).length ∧ q.2.2.length = 64 ∧ bls ((padded s).length / 64 - q.1) q.2.1 ((padded s).drop (64 * q.1)) = bls ((padded s).length / 64) v0 (padded s)) (μ := fun q => (padded s).length - 64 * q.1) (0, v0, List.replicate 64 0) ⟨by dsimp only; omega, rfl, rfl⟩ (okE_cons rfl okE_nil) (fun w h => h) (fun sK8 hK8 K8 againK8 => ?_)
  obtain ⟨n, v, ws⟩ := sK8
  dsimp only at hK8 againK8 ⊢
  obtain ⟨hn, hws, hbl⟩ := hK8
  refine JC.seq fun K9 hK9 => ?_
  refine JC.seq fun K10 hK10 => ?_
  refine JC.region ?_
  refine J.yl (y_move rfl rfl) rfl rfl rfl ?_
  refine J.yl (y_move rfl rfl) rfl rfl rfl ?_
  refine J.yl (y_len rfl Tryd.underlying205 rfl) rfl rfl rfl ?_
  refine J.yl (y_lt rfl rfl rfl) rfl rfl rfl ?_
  refine J.nil ?_
  refine JQ.next hK10 ?_
  refine JC.condp rfl (fun h1 => ?_) (fun h1 => ?_)
  · have hn2 : 64 * n + 64 ≤ (padded s).length := by omega
    refine JC.skip ?_
    refine JQ.next hK9 ?_
    refine JC.seq fun K11 hK11 => ?_
    refine JC.block ?_
    refine JC.seq fun K12 hK12 => ?_
    refine JC.seq fun K13 hK13 => ?_
    refine JC.region ?_
    refine J.yl (y_assign rfl rfl) rfl rfl rfl ?_
    refine J.nil ?_
    refine JQ.next hK13 ?_
    refine JC.block ?_
    refine JC.loopE (σ := Nat × List UInt32) (M := fun q => [(8, .int .i64 (q.1 : Int))]) (kp := [(2, _), (3, _), (4, _), (5, _), (6, _), (7, _)]) (hkp := (okE_cons rfl (okE_cons rfl (okE_cons rfl (okE_cons rfl (okE_cons rfl (okE_cons rfl okE_nil))))))) (Dc := fun q => [.box g6 203 ((wl (((padded s).drop (64 * n)).take 64) q.1 ++ q.2).map u32), .fro (.slice A (padded s).length kc) 5 (padded s).length ((padded s).map u8), .box g4 204 (vc v), .box g3 203 (kk.map u32), .box g2 30 (hc H.zero)]) (H := fun _ => F) (Ψ := fun q => q.1 ≤ 16 ∧ q.2.length = 64 - q.1) (μ := fun q => 16 - q.1) (0, ws) ⟨by dsimp only; omega, hws⟩ (okE_cons rfl okE_nil) (fun w h => h) (fun sK14 hK14 K14 againK14 => ?_)
    obtain ⟨i, r⟩ := sK14
    dsimp only at hK14 againK14 ⊢
    obtain ⟨hi, hr⟩ := hK14
    refine JC.seq fun K15 hK15 => ?_
    refine JC.seq fun K16 hK16 => ?_
    refine JC.region ?_
    refine J.yl (y_move rfl rfl) rfl rfl rfl ?_
    refine J.yl (y_lt rfl rfl rfl) rfl rfl rfl ?_
    refine J.nil ?_
    refine JQ.next hK16 ?_
    refine JC.condp rfl (fun h2 => ?_) (fun h2 => ?_)
    · have hrn : r ≠ [] := by rintro rfl; simp at hr; omega
      refine JC.skip ?_
      refine JQ.next hK15 ?_
      refine JC.seq fun K17 hK17 => ?_
      refine JC.block ?_
      refine JC.seq fun K18 hK18 => ?_
      refine JC.region ?_
      refine J.yl (y_move rfl rfl) rfl rfl rfl ?_
      refine J.yl (y_move rfl rfl) rfl rfl rfl ?_
      refine J.yl (y_mul64 rfl rfl rfl (by omega)) rfl rfl rfl ?_
      refine J.yl (y_add64 rfl rfl rfl (by omega)) rfl rfl rfl ?_
      refine J.yl (y_assign rfl rfl) rfl rfl rfl ?_
      refine J.nil ?_
      refine JQ.next hK18 ?_
      refine JC.draw (by kernel_rfl) ?_
      refine D.take 0 (y_move rfl rfl) rfl rfl rfl rfl (by kernel_rfl) (by kernel_rfl) (by kernel_rfl) (PQ.block (PQ.next (PQ.next (PQ.block (PQ.next (PQ.block (PQ.next (PQ.next (PQ.block (PQ.next PQ.body)))))))))) ?_
      refine D.take 1 (y_move rfl rfl) rfl rfl rfl rfl (by kernel_rfl) (by kernel_rfl) (by kernel_rfl) (PQ.block (PQ.next (PQ.next (PQ.block (PQ.next (PQ.block (PQ.next (PQ.next (PQ.block (PQ.next PQ.body)))))))))) ?_
      refine D.take 2 (y_move rfl rfl) rfl rfl rfl rfl (by kernel_rfl) (by kernel_rfl) (by kernel_rfl) (PQ.block (PQ.next (PQ.next (PQ.block (PQ.next (PQ.block (PQ.next (PQ.next (PQ.block (PQ.next PQ.body)))))))))) ?_
      refine D.take 7 (y_move rfl rfl) rfl rfl rfl rfl (by kernel_rfl) (by kernel_rfl) (by kernel_rfl) (PQ.block (PQ.next (PQ.next (PQ.block (PQ.next (PQ.block (PQ.next (PQ.next (PQ.block (PQ.next PQ.body)))))))))) ?_
      refine D.take 8 (y_move rfl rfl) rfl rfl rfl rfl (by kernel_rfl) (by kernel_rfl) (by kernel_rfl) (PQ.block (PQ.next (PQ.next (PQ.block (PQ.next (PQ.block (PQ.next (PQ.next (PQ.block (PQ.next PQ.body)))))))))) ?_
      refine D.take 9 (y_add64 rfl rfl rfl (by omega)) rfl rfl rfl rfl (by kernel_rfl) (by kernel_rfl) (by kernel_rfl) (PQ.block (PQ.next (PQ.next (PQ.block (PQ.next (PQ.block (PQ.next (PQ.next (PQ.block (PQ.next PQ.body)))))))))) ?_
      refine D.take 15 (y_move rfl rfl) rfl rfl rfl rfl (by kernel_rfl) (by kernel_rfl) (by kernel_rfl) (PQ.block (PQ.next (PQ.next (PQ.block (PQ.next (PQ.block (PQ.next (PQ.next (PQ.block (PQ.next PQ.body)))))))))) ?_
      refine D.take 16 (y_move rfl rfl) rfl rfl rfl rfl (by kernel_rfl) (by kernel_rfl) (by kernel_rfl) (PQ.block (PQ.next (PQ.next (PQ.block (PQ.next (PQ.block (PQ.next (PQ.next (PQ.block (PQ.next PQ.body)))))))))) ?_
      refine D.take 17 (y_add64 rfl rfl rfl (by omega)) rfl rfl rfl rfl (by kernel_rfl) (by kernel_rfl) (by kernel_rfl) (PQ.block (PQ.next (PQ.next (PQ.block (PQ.next (PQ.block (PQ.next (PQ.next (PQ.block (PQ.next PQ.body)))))))))) ?_
      refine D.take 23 (y_move rfl rfl) rfl rfl rfl rfl (by kernel_rfl) (by kernel_rfl) (by kernel_rfl) (PQ.block (PQ.next (PQ.next (PQ.block (PQ.next (PQ.block (PQ.next (PQ.next (PQ.block (PQ.next PQ.body)))))))))) ?_
      refine D.take 24 (y_move rfl rfl) rfl rfl rfl rfl (by kernel_rfl) (by kernel_rfl) (by kernel_rfl) (PQ.block (PQ.next (PQ.next (PQ.block (PQ.next (PQ.block (PQ.next (PQ.next (PQ.block (PQ.next PQ.body)))))))))) ?_
      refine D.take 25 (y_add64 rfl rfl rfl (by omega)) rfl rfl rfl rfl (by kernel_rfl) (by kernel_rfl) (by kernel_rfl) (PQ.block (PQ.next (PQ.next (PQ.block (PQ.next (PQ.block (PQ.next (PQ.next (PQ.block (PQ.next PQ.body)))))))))) ?_
      refine D.take 3 (y_idxN (64 * n + 4 * i) rfl Tryd.underlying205 Tb.sz5 rfl rfl (by omega) (by omega) (fun w hs => (Sl.of_fro (hs.get (i := 1) rfl)).some_ hne)) rfl rfl rfl rfl (by kernel_rfl) (by kernel_rfl) (by kernel_rfl) (PQ.block (PQ.next (PQ.next (PQ.block (PQ.next (PQ.block (PQ.next (PQ.next (PQ.block (PQ.next PQ.body)))))))))) ?_
      refine D.take 4 (y_lsl rfl Tb.ag5 rfl (fun w hs => Sl.of_fro (hs.get (i := 1) rfl)) (get_bytes (by omega))) rfl rfl rfl rfl (by kernel_rfl) (by kernel_rfl) (by kernel_rfl) (PQ.block (PQ.next (PQ.next (PQ.block (PQ.next (PQ.block (PQ.next (PQ.next (PQ.block (PQ.next PQ.body)))))))))) ?_
      refine D.take 5 (y_8to32 rfl (isS Tryd.underlying5) Tryd.underlying202 rfl) rfl rfl rfl rfl (by kernel_rfl) (by kernel_rfl) (by kernel_rfl) (PQ.block (PQ.next (PQ.next (PQ.block (PQ.next (PQ.block (PQ.next (PQ.next (PQ.block (PQ.next PQ.body)))))))))) ?_
      refine D.take 6 (y_shl32 (n := 24) rfl rfl rfl (by decide)) rfl rfl rfl rfl (by kernel_rfl) (by kernel_rfl) (by kernel_rfl) (PQ.block (PQ.next (PQ.next (PQ.block (PQ.next (PQ.block (PQ.next (PQ.next (PQ.block (PQ.next PQ.body)))))))))) ?_
      refine D.take 10 (y_idxN (64 * n + 4 * i + 1) rfl Tryd.underlying205 Tb.sz5 rfl rfl (by omega) (by omega) (fun w hs => (Sl.of_fro (hs.get (i := 1) rfl)).some_ hne)) rfl rfl rfl rfl (by kernel_rfl) (by kernel_rfl) (by kernel_rfl) (PQ.block (PQ.next (PQ.next (PQ.block (PQ.next (PQ.block (PQ.next (PQ.next (PQ.block (PQ.next PQ.body)))))))))) ?_
      refine D.take 11 (y_lsl rfl Tb.ag5 rfl (fun w hs => Sl.of_fro (hs.get (i := 1) rfl)) (get_bytes (by omega))) rfl rfl rfl rfl (by kernel_rfl) (by kernel_rfl) (by kernel_rfl) (PQ.block (PQ.next (PQ.next (PQ.block (PQ.next (PQ.block (PQ.next (PQ.next (PQ.block (PQ.next PQ.body)))))))))) ?_
      refine D.take 12 (y_8to32 rfl (isS Tryd.underlying5) Tryd.underlying202 rfl) rfl rfl rfl rfl (by kernel_rfl) (by kernel_rfl) (by kernel_rfl) (PQ.block (PQ.next (PQ.next (PQ.block (PQ.next (PQ.block (PQ.next (PQ.next (PQ.block (PQ.next PQ.body)))))))))) ?_
      refine D.take 13 (y_shl32 (n := 16) rfl rfl rfl (by decide)) rfl rfl rfl rfl (by kernel_rfl) (by kernel_rfl) (by kernel_rfl) (PQ.block (PQ.next (PQ.next (PQ.block (PQ.next (PQ.block (PQ.next (PQ.next (PQ.block (PQ.next PQ.body)))))))))) ?_
      refine D.take 14 (y_add32 rfl rfl rfl) rfl rfl rfl rfl (by kernel_rfl) (by kernel_rfl) (by kernel_rfl) (PQ.block (PQ.next (PQ.next (PQ.block (PQ.next (PQ.block (PQ.next (PQ.next (PQ.block (PQ.next PQ.body)))))))))) ?_
      refine D.take 18 (y_idxN (64 * n + 4 * i + 2) rfl Tryd.underlying205 Tb.sz5 rfl rfl (by omega) (by omega) (fun w hs => (Sl.of_fro (hs.get (i := 1) rfl)).some_ hne)) rfl rfl rfl rfl (by kernel_rfl) (by kernel_rfl) (by kernel_rfl) (PQ.block (PQ.next (PQ.next (PQ.block (PQ.next (PQ.block (PQ.next (PQ.next (PQ.block (PQ.next PQ.body)))))))))) ?_
      refine D.take 19 (y_lsl rfl Tb.ag5 rfl (fun w hs => Sl.of_fro (hs.get (i := 1) rfl)) (get_bytes (by omega))) rfl rfl rfl rfl (by kernel_rfl) (by kernel_rfl) (by kernel_rfl) (PQ.block (PQ.next (PQ.next (PQ.block (PQ.next (PQ.block (PQ.next (PQ.next (PQ.block (PQ.next PQ.body)))))))))) ?_
      refine D.take 20 (y_8to32 rfl (isS Tryd.underlying5) Tryd.underlying202 rfl) rfl rfl rfl rfl (by kernel_rfl) (by kernel_rfl) (by kernel_rfl) (PQ.block (PQ.next (PQ.next (PQ.block (PQ.next (PQ.block (PQ.next (PQ.next (PQ.block (PQ.next PQ.body)))))))))) ?_
      refine D.take 21 (y_shl32 (n := 8) rfl rfl rfl (by decide)) rfl rfl rfl rfl (by kernel_rfl) (by kernel_rfl) (by kernel_rfl) (PQ.block (PQ.next (PQ.next (PQ.block (PQ.next (PQ.block (PQ.next (PQ.next (PQ.block (PQ.next PQ.body)))))))))) ?_
      refine D.take 22 (y_add32 rfl rfl rfl) rfl rfl rfl rfl (by kernel_rfl) (by kernel_rfl) (by kernel_rfl) (PQ.block (PQ.next (PQ.next (PQ.block (PQ.next (PQ.block (PQ.next (PQ.next (PQ.block (PQ.next PQ.body)))))))))) ?_
      refine D.take 26 (y_idxN (64 * n + 4 * i + 3) rfl Tryd.underlying205 Tb.sz5 rfl rfl (by omega) (by omega) (fun w hs => (Sl.of_fro (hs.get (i := 1) rfl)).some_ hne)) rfl rfl rfl rfl (by kernel_rfl) (by kernel_rfl) (by kernel_rfl) (PQ.block (PQ.next (PQ.next (PQ.block (PQ.next (PQ.block (PQ.next (PQ.next (PQ.block (PQ.next PQ.body)))))))))) ?_
      refine D.take 27 (y_lsl rfl Tb.ag5 rfl (fun w hs => Sl.of_fro (hs.get (i := 1) rfl)) (get_bytes (by omega))) rfl rfl rfl rfl (by kernel_rfl) (by kernel_rfl) (by kernel_rfl) (PQ.block (PQ.next (PQ.next (PQ.block (PQ.next (PQ.block (PQ.next (PQ.next (PQ.block (PQ.next PQ.body)))))))))) ?_
      refine D.take 28 (y_8to32 rfl (isS Tryd.underlying5) Tryd.underlying202 rfl) rfl rfl rfl rfl (by kernel_rfl) (by kernel_rfl) (by kernel_rfl) (PQ.block (PQ.next (PQ.next (PQ.block (PQ.next (PQ.block (PQ.next (PQ.next (PQ.block (PQ.next PQ.body)))))))))) ?_
      refine D.take 29 (y_add32 rfl rfl rfl) rfl rfl rfl rfl (by kernel_rfl) (by kernel_rfl) (by kernel_rfl) (PQ.block (PQ.next (PQ.next (PQ.block (PQ.next (PQ.block (PQ.next (PQ.next (PQ.block (PQ.next PQ.body)))))))))) ?_
      refine D.take 30 (y_ib1 i rfl Tryd.underlying203 Tb.sz202 rfl rfl rfl (by omega)) rfl rfl rfl rfl (by kernel_rfl) (by kernel_rfl) (by kernel_rfl) (PQ.block (PQ.next (PQ.next (PQ.block (PQ.next (PQ.block (PQ.next (PQ.next (PQ.block (PQ.next PQ.body)))))))))) ?_
      refine D.store1c (cs' := (wl (((padded s).drop (64 * n)).take 64) (i + 1) ++ r.tail).map u32) 31 0 (by kernel_rfl) rfl (by kernel_rfl) (by kernel_rfl) rfl rfl rfl rfl rfl rfl rfl Tb.sz202 rfl (by simp [length_wl, hr]; omega) (by rw [← wl_set _ i r hrn, wv, if_pos (by omega), getW_p _ _ _ (by omega)]; rfl) ?_
      refine JQ.block_normal (JQ.next hK17 ?_)
      refine JC.region ?_
      refine J.yl (y_move rfl rfl) rfl rfl rfl ?_
      refine J.yl (y_add64 rfl rfl rfl (by omega)) rfl rfl rfl ?_
      refine J.yl (y_assign rfl rfl) rfl rfl rfl ?_
      refine J.nil ?_
      refine againK14 (i + 1, r.tail) _ ⟨by dsimp only; omega, by simp [hr]; omega⟩ (by dsimp only; omega) (okE_cons rfl okE_nil) (okE_cons rfl (okE_cons rfl (okE_cons rfl (okE_cons rfl (okE_cons rfl (okE_cons rfl okE_nil))))))
    · obtain rfl : i = 16 := by omega
      refine JC.exit ?_
      refine JQ.then_exit (JQ.then_exit (JQ.block_hit (JQ.next hK12 ?_)))
      refine JC.seq fun K19 hK19 => ?_
      refine JC.seq fun K20 hK20 => ?_
      refine JC.region ?_
      refine J.yl (y_assign rfl rfl) rfl rfl rfl ?_
      refine J.nil ?_
      refine JQ.next hK20 ?_
      refine JC.block ?_
      refine JC.loopE (σ := Nat × List UInt32) (M := fun q => [(10, .int .i64 (q.1 : Int))]) (kp := [(2, _), (3, _), (4, _), (5, _), (6, _), (7, _)]) (hkp := (okE_cons rfl (okE_cons rfl (okE_cons rfl (okE_cons rfl (okE_cons rfl (okE_cons rfl okE_nil))))))) (Dc := fun q => [.box g6 203 ((wl (((padded s).drop (64 * n)).take 64) q.1 ++ q.2).map u32), .fro (.slice A (padded s).length kc) 5 (padded s).length ((padded s).map u8), .box g4 204 (vc v), .box g3 203 (kk.map u32), .box g2 30 (hc H.zero)]) (H := fun _ => F) (Ψ := fun q => 16 ≤ q.1 ∧ q.1 ≤ 64 ∧ q.2.length = 64 - q.1) (μ := fun q => 64 - q.1) (16, r) ⟨by dsimp only; omega, by dsimp only; omega, hr⟩ (okE_cons rfl okE_nil) (fun w h => h) (fun sK21 hK21 K21 againK21 => ?_)
      obtain ⟨i, r⟩ := sK21
      dsimp only at hK21 againK21 ⊢
      obtain ⟨hi6, hi, hr⟩ := hK21
      refine JC.seq fun K22 hK22 => ?_
      refine JC.seq fun K23 hK23 => ?_
      refine JC.region ?_
      refine J.yl (y_move rfl rfl) rfl rfl rfl ?_
      refine J.yl (y_lt rfl rfl rfl) rfl rfl rfl ?_
      refine J.nil ?_
      refine JQ.next hK23 ?_
      refine JC.condp rfl (fun h3 => ?_) (fun h3 => ?_)
      · have hrn : r ≠ [] := by rintro rfl; simp at hr; omega
        refine JC.skip ?_
        refine JQ.next hK22 ?_
        refine JC.seq fun K24 hK24 => ?_
        refine JC.block ?_
        refine JC.seq fun K25 hK25 => ?_
        refine JC.draw (by kernel_rfl) ?_
        refine D.take 0 (y_move rfl rfl) rfl rfl rfl rfl (by kernel_rfl) (by kernel_rfl) (by kernel_rfl) (PQ.next (PQ.block (PQ.next (PQ.next (PQ.block (PQ.next (PQ.block (PQ.next (PQ.next (PQ.block (PQ.next PQ.body))))))))))) ?_
        refine D.take 1 (y_sub64 rfl rfl rfl (by omega)) rfl rfl rfl rfl (by kernel_rfl) (by kernel_rfl) (by kernel_rfl) (PQ.next (PQ.block (PQ.next (PQ.next (PQ.block (PQ.next (PQ.block (PQ.next (PQ.next (PQ.block (PQ.next PQ.body))))))))))) ?_
        refine D.take 4 (y_move rfl rfl) rfl rfl rfl rfl (by kernel_rfl) (by kernel_rfl) (by kernel_rfl) (PQ.next (PQ.block (PQ.next (PQ.next (PQ.block (PQ.next (PQ.block (PQ.next (PQ.next (PQ.block (PQ.next PQ.body))))))))))) ?_
        refine D.take 5 (y_sub64 rfl rfl rfl (by omega)) rfl rfl rfl rfl (by kernel_rfl) (by kernel_rfl) (by kernel_rfl) (PQ.next (PQ.block (PQ.next (PQ.next (PQ.block (PQ.next (PQ.block (PQ.next (PQ.next (PQ.block (PQ.next PQ.body))))))))))) ?_
        refine D.take 2 (y_ib1 (i - 15) rfl Tryd.underlying203 Tb.sz202 rfl rfl (by omega) (by omega)) rfl rfl rfl rfl (by kernel_rfl) (by kernel_rfl) (by kernel_rfl) (PQ.next (PQ.block (PQ.next (PQ.next (PQ.block (PQ.next (PQ.block (PQ.next (PQ.next (PQ.block (PQ.next PQ.body))))))))))) ?_
        refine D.take 3 (y_lb 0 rfl Tb.ag202 rfl rfl (wl_get _ i r (i - 15) (by omega))) rfl rfl rfl rfl (by kernel_rfl) (by kernel_rfl) (by kernel_rfl) (PQ.next (PQ.block (PQ.next (PQ.next (PQ.block (PQ.next (PQ.block (PQ.next (PQ.next (PQ.block (PQ.next PQ.body))))))))))) ?_
        refine D.take 8 (y_assign rfl rfl) rfl rfl rfl rfl (by kernel_rfl) (by kernel_rfl) (by kernel_rfl) (PQ.next (PQ.block (PQ.next (PQ.next (PQ.block (PQ.next (PQ.block (PQ.next (PQ.next (PQ.block (PQ.next PQ.body))))))))))) ?_
        refine D.take 6 (y_ib1 (i - 2) rfl Tryd.underlying203 Tb.sz202 rfl rfl (by omega) (by omega)) rfl rfl rfl rfl (by kernel_rfl) (by kernel_rfl) (by kernel_rfl) (PQ.next (PQ.block (PQ.next (PQ.next (PQ.block (PQ.next (PQ.block (PQ.next (PQ.next (PQ.block (PQ.next PQ.body))))))))))) ?_
        refine D.take 7 (y_lb 0 rfl Tb.ag202 rfl rfl (wl_get _ i r (i - 2) (by omega))) rfl rfl rfl rfl (by kernel_rfl) (by kernel_rfl) (by kernel_rfl) (PQ.next (PQ.block (PQ.next (PQ.next (PQ.block (PQ.next (PQ.block (PQ.next (PQ.next (PQ.block (PQ.next PQ.body))))))))))) ?_
        refine D.take 9 (y_assign rfl rfl) rfl rfl rfl rfl (by kernel_rfl) (by kernel_rfl) (by kernel_rfl) (PQ.next (PQ.block (PQ.next (PQ.next (PQ.block (PQ.next (PQ.block (PQ.next (PQ.next (PQ.block (PQ.next PQ.body))))))))))) ?_
        refine D.done (by kernel_rfl) ?_
        refine JQ.next hK25 ?_
        refine JC.draw (by kernel_rfl) ?_
        refine D.take 0 (y_move rfl rfl) rfl rfl rfl rfl (by kernel_rfl) (by kernel_rfl) (by kernel_rfl) (PQ.block (PQ.next (PQ.next (PQ.block (PQ.next (PQ.block (PQ.next (PQ.next (PQ.block (PQ.next PQ.body)))))))))) ?_
        refine D.take 1 (y_move rfl rfl) rfl rfl rfl rfl (by kernel_rfl) (by kernel_rfl) (by kernel_rfl) (PQ.block (PQ.next (PQ.next (PQ.block (PQ.next (PQ.block (PQ.next (PQ.next (PQ.block (PQ.next PQ.body)))))))))) ?_
        refine D.take 2 (y_sub64 rfl rfl rfl (by omega)) rfl rfl rfl rfl (by kernel_rfl) (by kernel_rfl) (by kernel_rfl) (PQ.block (PQ.next (PQ.next (PQ.block (PQ.next (PQ.block (PQ.next (PQ.next (PQ.block (PQ.next PQ.body)))))))))) ?_
        refine D.take 5 (y_move rfl rfl) rfl rfl rfl rfl (by kernel_rfl) (by kernel_rfl) (by kernel_rfl) (PQ.block (PQ.next (PQ.next (PQ.block (PQ.next (PQ.block (PQ.next (PQ.next (PQ.block (PQ.next PQ.body)))))))))) ?_
        refine D.take 7 (y_move rfl rfl) rfl rfl rfl rfl (by kernel_rfl) (by kernel_rfl) (by kernel_rfl) (PQ.block (PQ.next (PQ.next (PQ.block (PQ.next (PQ.block (PQ.next (PQ.next (PQ.block (PQ.next PQ.body)))))))))) ?_
        refine D.take 10 (y_move rfl rfl) rfl rfl rfl rfl (by kernel_rfl) (by kernel_rfl) (by kernel_rfl) (PQ.block (PQ.next (PQ.next (PQ.block (PQ.next (PQ.block (PQ.next (PQ.next (PQ.block (PQ.next PQ.body)))))))))) ?_
        refine D.take 11 (y_shr32 (n := 3) rfl rfl rfl (by decide)) rfl rfl rfl rfl (by kernel_rfl) (by kernel_rfl) (by kernel_rfl) (PQ.block (PQ.next (PQ.next (PQ.block (PQ.next (PQ.block (PQ.next (PQ.next (PQ.block (PQ.next PQ.body)))))))))) ?_
        refine D.take 14 (y_move rfl rfl) rfl rfl rfl rfl (by kernel_rfl) (by kernel_rfl) (by kernel_rfl) (PQ.block (PQ.next (PQ.next (PQ.block (PQ.next (PQ.block (PQ.next (PQ.next (PQ.block (PQ.next PQ.body)))))))))) ?_
        refine D.take 15 (y_sub64 rfl rfl rfl (by omega)) rfl rfl rfl rfl (by kernel_rfl) (by kernel_rfl) (by kernel_rfl) (PQ.block (PQ.next (PQ.next (PQ.block (PQ.next (PQ.block (PQ.next (PQ.next (PQ.block (PQ.next PQ.body)))))))))) ?_
        refine D.take 19 (y_move rfl rfl) rfl rfl rfl rfl (by kernel_rfl) (by kernel_rfl) (by kernel_rfl) (PQ.block (PQ.next (PQ.next (PQ.block (PQ.next (PQ.block (PQ.next (PQ.next (PQ.block (PQ.next PQ.body)))))))))) ?_
        refine D.take 21 (y_move rfl rfl) rfl rfl rfl rfl (by kernel_rfl) (by kernel_rfl) (by kernel_rfl) (PQ.block (PQ.next (PQ.next (PQ.block (PQ.next (PQ.block (PQ.next (PQ.next (PQ.block (PQ.next PQ.body)))))))))) ?_
        refine D.take 24 (y_move rfl rfl) rfl rfl rfl rfl (by kernel_rfl) (by kernel_rfl) (by kernel_rfl) (PQ.block (PQ.next (PQ.next (PQ.block (PQ.next (PQ.block (PQ.next (PQ.next (PQ.block (PQ.next PQ.body)))))))))) ?_
        refine D.take 25 (y_shr32 (n := 10) rfl rfl rfl (by decide)) rfl rfl rfl rfl (by kernel_rfl) (by kernel_rfl) (by kernel_rfl) (PQ.block (PQ.next (PQ.next (PQ.block (PQ.next (PQ.block (PQ.next (PQ.next (PQ.block (PQ.next PQ.body)))))))))) ?_
        refine D.take 3 (y_ib1 (i - 16) rfl Tryd.underlying203 Tb.sz202 rfl rfl (by omega) (by omega)) rfl rfl rfl rfl (by kernel_rfl) (by kernel_rfl) (by kernel_rfl) (PQ.block (PQ.next (PQ.next (PQ.block (PQ.next (PQ.block (PQ.next (PQ.next (PQ.block (PQ.next PQ.body)))))))))) ?_
        refine D.take 4 (y_lb 0 rfl Tb.ag202 rfl rfl (wl_get _ i r (i - 16) (by omega))) rfl rfl rfl rfl (by kernel_rfl) (by kernel_rfl) (by kernel_rfl) (PQ.block (PQ.next (PQ.next (PQ.block (PQ.next (PQ.block (PQ.next (PQ.next (PQ.block (PQ.next PQ.body)))))))))) ?_
        refine D.take 16 (y_ib1 (i - 7) rfl Tryd.underlying203 Tb.sz202 rfl rfl (by omega) (by omega)) rfl rfl rfl rfl (by kernel_rfl) (by kernel_rfl) (by kernel_rfl) (PQ.block (PQ.next (PQ.next (PQ.block (PQ.next (PQ.block (PQ.next (PQ.next (PQ.block (PQ.next PQ.body)))))))))) ?_
        refine D.take 17 (y_lb 0 rfl Tb.ag202 rfl rfl (wl_get _ i r (i - 7) (by omega))) rfl rfl rfl rfl (by kernel_rfl) (by kernel_rfl) (by kernel_rfl) (PQ.block (PQ.next (PQ.next (PQ.block (PQ.next (PQ.block (PQ.next (PQ.next (PQ.block (PQ.next PQ.body)))))))))) ?_
        refine D.callv 6 (by kernel_rfl) rfl rfl rfl rfl rfl Tb.cl162 rfl (turn_spec _ 7 (by decide)) ?_
        refine D.callv 8 (by kernel_rfl) rfl rfl rfl rfl rfl Tb.cl162 rfl (turn_spec _ 18 (by decide)) ?_
        refine D.take 9 (y_xor32 rfl rfl rfl) rfl rfl rfl rfl (by kernel_rfl) (by kernel_rfl) (by kernel_rfl) (PQ.block (PQ.next (PQ.next (PQ.block (PQ.next (PQ.block (PQ.next (PQ.next (PQ.block (PQ.next PQ.body)))))))))) ?_
        refine D.take 12 (y_xor32 rfl rfl rfl) rfl rfl rfl rfl (by kernel_rfl) (by kernel_rfl) (by kernel_rfl) (PQ.block (PQ.next (PQ.next (PQ.block (PQ.next (PQ.block (PQ.next (PQ.next (PQ.block (PQ.next PQ.body)))))))))) ?_
        refine D.take 13 (y_add32 rfl rfl rfl) rfl rfl rfl rfl (by kernel_rfl) (by kernel_rfl) (by kernel_rfl) (PQ.block (PQ.next (PQ.next (PQ.block (PQ.next (PQ.block (PQ.next (PQ.next (PQ.block (PQ.next PQ.body)))))))))) ?_
        refine D.take 18 (y_add32 rfl rfl rfl) rfl rfl rfl rfl (by kernel_rfl) (by kernel_rfl) (by kernel_rfl) (PQ.block (PQ.next (PQ.next (PQ.block (PQ.next (PQ.block (PQ.next (PQ.next (PQ.block (PQ.next PQ.body)))))))))) ?_
        refine D.callv 20 (by kernel_rfl) rfl rfl rfl rfl rfl Tb.cl162 rfl (turn_spec _ 17 (by decide)) ?_
        refine D.callv 22 (by kernel_rfl) rfl rfl rfl rfl rfl Tb.cl162 rfl (turn_spec _ 19 (by decide)) ?_
        refine D.take 23 (y_xor32 rfl rfl rfl) rfl rfl rfl rfl (by kernel_rfl) (by kernel_rfl) (by kernel_rfl) (PQ.block (PQ.next (PQ.next (PQ.block (PQ.next (PQ.block (PQ.next (PQ.next (PQ.block (PQ.next PQ.body)))))))))) ?_
        refine D.take 26 (y_xor32 rfl rfl rfl) rfl rfl rfl rfl (by kernel_rfl) (by kernel_rfl) (by kernel_rfl) (PQ.block (PQ.next (PQ.next (PQ.block (PQ.next (PQ.block (PQ.next (PQ.next (PQ.block (PQ.next PQ.body)))))))))) ?_
        refine D.take 27 (y_add32 rfl rfl rfl) rfl rfl rfl rfl (by kernel_rfl) (by kernel_rfl) (by kernel_rfl) (PQ.block (PQ.next (PQ.next (PQ.block (PQ.next (PQ.block (PQ.next (PQ.next (PQ.block (PQ.next PQ.body)))))))))) ?_
        refine D.take 28 (y_ib1 i rfl Tryd.underlying203 Tb.sz202 rfl rfl rfl (by omega)) rfl rfl rfl rfl (by kernel_rfl) (by kernel_rfl) (by kernel_rfl) (PQ.block (PQ.next (PQ.next (PQ.block (PQ.next (PQ.block (PQ.next (PQ.next (PQ.block (PQ.next PQ.body)))))))))) ?_
        refine D.store1c (cs' := (wl (((padded s).drop (64 * n)).take 64) (i + 1) ++ r.tail).map u32) 29 0 (by kernel_rfl) rfl (by kernel_rfl) (by kernel_rfl) rfl rfl rfl rfl rfl rfl rfl Tb.sz202 rfl (by simp [length_wl, hr]; omega) (by rw [← wl_set _ i r hrn, ← wv_alt _ _ _ hi6]) ?_
        refine JQ.block_normal (JQ.next hK24 ?_)
        refine JC.region ?_
        refine J.yl (y_move rfl rfl) rfl rfl rfl ?_
        refine J.yl (y_add64 rfl rfl rfl (by omega)) rfl rfl rfl ?_
        refine J.yl (y_assign rfl rfl) rfl rfl rfl ?_
        refine J.nil ?_
        refine againK21 (i + 1, r.tail) _ ⟨by dsimp only; omega, by dsimp only; omega, by simp [hr]; omega⟩ (by dsimp only; omega) (okE_cons rfl okE_nil) (okE_cons rfl (okE_cons rfl (okE_cons rfl (okE_cons rfl (okE_cons rfl (okE_cons rfl okE_nil))))))
      · obtain rfl : i = 64 := by omega
        obtain rfl : r = [] := List.eq_nil_of_length_eq_zero (by omega)
        rw [List.append_nil]
        refine JC.exit ?_
        refine JQ.then_exit (JQ.then_exit (JQ.block_hit (JQ.next hK19 ?_)))
        refine JC.seq fun K26 hK26 => ?_
        refine JC.draw (by kernel_rfl) ?_
        refine D.take 0 (y_ib rfl Tryd.underlying204 Tb.sz202 rfl rfl (by decide)) rfl rfl rfl rfl (by kernel_rfl) (by kernel_rfl) (by kernel_rfl) (PQ.next (PQ.block (PQ.next (PQ.next (PQ.block (PQ.next PQ.body)))))) ?_
        refine D.take 1 (y_lb 2 rfl Tb.ag202 rfl rfl rfl) rfl rfl rfl rfl (by kernel_rfl) (by kernel_rfl) (by kernel_rfl) (PQ.next (PQ.block (PQ.next (PQ.next (PQ.block (PQ.next PQ.body)))))) ?_
        refine D.take 2 (y_ib rfl Tryd.underlying204 Tb.sz202 rfl rfl (by decide)) rfl rfl rfl rfl (by kernel_rfl) (by kernel_rfl) (by kernel_rfl) (PQ.next (PQ.block (PQ.next (PQ.next (PQ.block (PQ.next PQ.body)))))) ?_
        refine D.take 3 (y_lb 2 rfl Tb.ag202 rfl rfl rfl) rfl rfl rfl rfl (by kernel_rfl) (by kernel_rfl) (by kernel_rfl) (PQ.next (PQ.block (PQ.next (PQ.next (PQ.block (PQ.next PQ.body)))))) ?_
        refine D.take 4 (y_ib rfl Tryd.underlying204 Tb.sz202 rfl rfl (by decide)) rfl rfl rfl rfl (by kernel_rfl) (by kernel_rfl) (by kernel_rfl) (PQ.next (PQ.block (PQ.next (PQ.next (PQ.block (PQ.next PQ.body)))))) ?_
        refine D.take 5 (y_lb 2 rfl Tb.ag202 rfl rfl rfl) rfl rfl rfl rfl (by kernel_rfl) (by kernel_rfl) (by kernel_rfl) (PQ.next (PQ.block (PQ.next (PQ.next (PQ.block (PQ.next PQ.body)))))) ?_
        refine D.take 6 (y_ib rfl Tryd.underlying204 Tb.sz202 rfl rfl (by decide)) rfl rfl rfl rfl (by kernel_rfl) (by kernel_rfl) (by kernel_rfl) (PQ.next (PQ.block (PQ.next (PQ.next (PQ.block (PQ.next PQ.body)))))) ?_
        refine D.take 7 (y_lb 2 rfl Tb.ag202 rfl rfl rfl) rfl rfl rfl rfl (by kernel_rfl) (by kernel_rfl) (by kernel_rfl) (PQ.next (PQ.block (PQ.next (PQ.next (PQ.block (PQ.next PQ.body)))))) ?_
        refine D.take 8 (y_ib rfl Tryd.underlying204 Tb.sz202 rfl rfl (by decide)) rfl rfl rfl rfl (by kernel_rfl) (by kernel_rfl) (by kernel_rfl) (PQ.next (PQ.block (PQ.next (PQ.next (PQ.block (PQ.next PQ.body)))))) ?_
        refine D.take 9 (y_lb 2 rfl Tb.ag202 rfl rfl rfl) rfl rfl rfl rfl (by kernel_rfl) (by kernel_rfl) (by kernel_rfl) (PQ.next (PQ.block (PQ.next (PQ.next (PQ.block (PQ.next PQ.body)))))) ?_
        refine D.take 10 (y_ib rfl Tryd.underlying204 Tb.sz202 rfl rfl (by decide)) rfl rfl rfl rfl (by kernel_rfl) (by kernel_rfl) (by kernel_rfl) (PQ.next (PQ.block (PQ.next (PQ.next (PQ.block (PQ.next PQ.body)))))) ?_
        refine D.take 11 (y_lb 2 rfl Tb.ag202 rfl rfl rfl) rfl rfl rfl rfl (by kernel_rfl) (by kernel_rfl) (by kernel_rfl) (PQ.next (PQ.block (PQ.next (PQ.next (PQ.block (PQ.next PQ.body)))))) ?_
        refine D.take 12 (y_ib rfl Tryd.underlying204 Tb.sz202 rfl rfl (by decide)) rfl rfl rfl rfl (by kernel_rfl) (by kernel_rfl) (by kernel_rfl) (PQ.next (PQ.block (PQ.next (PQ.next (PQ.block (PQ.next PQ.body)))))) ?_
        refine D.take 13 (y_lb 2 rfl Tb.ag202 rfl rfl rfl) rfl rfl rfl rfl (by kernel_rfl) (by kernel_rfl) (by kernel_rfl) (PQ.next (PQ.block (PQ.next (PQ.next (PQ.block (PQ.next PQ.body)))))) ?_
        refine D.take 14 (y_ib rfl Tryd.underlying204 Tb.sz202 rfl rfl (by decide)) rfl rfl rfl rfl (by kernel_rfl) (by kernel_rfl) (by kernel_rfl) (PQ.next (PQ.block (PQ.next (PQ.next (PQ.block (PQ.next PQ.body)))))) ?_
        refine D.take 15 (y_lb 2 rfl Tb.ag202 rfl rfl rfl) rfl rfl rfl rfl (by kernel_rfl) (by kernel_rfl) (by kernel_rfl) (PQ.next (PQ.block (PQ.next (PQ.next (PQ.block (PQ.next PQ.body)))))) ?_
        refine D.take 16 (y_assign rfl rfl) rfl rfl rfl rfl (by kernel_rfl) (by kernel_rfl) (by kernel_rfl) (PQ.next (PQ.block (PQ.next (PQ.next (PQ.block (PQ.next PQ.body)))))) ?_
        refine D.take 17 (y_assign rfl rfl) rfl rfl rfl rfl (by kernel_rfl) (by kernel_rfl) (by kernel_rfl) (PQ.next (PQ.block (PQ.next (PQ.next (PQ.block (PQ.next PQ.body)))))) ?_
        refine D.take 18 (y_assign rfl rfl) rfl rfl rfl rfl (by kernel_rfl) (by kernel_rfl) (by kernel_rfl) (PQ.next (PQ.block (PQ.next (PQ.next (PQ.block (PQ.next PQ.body)))))) ?_
        refine D.take 19 (y_assign rfl rfl) rfl rfl rfl rfl (by kernel_rfl) (by kernel_rfl) (by kernel_rfl) (PQ.next (PQ.block (PQ.next (PQ.next (PQ.block (PQ.next PQ.body)))))) ?_
        refine D.take 20 (y_assign rfl rfl) rfl rfl rfl rfl (by kernel_rfl) (by kernel_rfl) (by kernel_rfl) (PQ.next (PQ.block (PQ.next (PQ.next (PQ.block (PQ.next PQ.body)))))) ?_
        refine D.take 21 (y_assign rfl rfl) rfl rfl rfl rfl (by kernel_rfl) (by kernel_rfl) (by kernel_rfl) (PQ.next (PQ.block (PQ.next (PQ.next (PQ.block (PQ.next PQ.body)))))) ?_
        refine D.take 22 (y_assign rfl rfl) rfl rfl rfl rfl (by kernel_rfl) (by kernel_rfl) (by kernel_rfl) (PQ.next (PQ.block (PQ.next (PQ.next (PQ.block (PQ.next PQ.body)))))) ?_
        refine D.take 23 (y_assign rfl rfl) rfl rfl rfl rfl (by kernel_rfl) (by kernel_rfl) (by kernel_rfl) (PQ.next (PQ.block (PQ.next (PQ.next (PQ.block (PQ.next PQ.body)))))) ?_
        refine D.done (by kernel_rfl) ?_
        refine JQ.next hK26 ?_
        refine JC.seq fun K27 hK27 => ?_
        refine JC.seq fun K28 hK28 => ?_
        refine JC.region ?_
        refine J.yl (y_assign rfl rfl) rfl rfl rfl ?_
        refine J.nil ?_
        refine JQ.next hK28 ?_
        refine JC.block ?_
        have hbl2 : bls ((padded s).length / 64 - (n + 1)) (comp v (((padded s).drop (64 * n)).take 64)) ((padded s).drop (64 * (n + 1))) = bls ((padded s).length / 64) v0 (padded s) := by
          rw [← hbl, show (padded s).length / 64 - n = ((padded s).length / 64 - (n + 1)) + 1 by omega, bls, List.drop_drop, show 64 * n + 64 = 64 * (n + 1) by omega]
        generalize hm : ((padded s).drop (64 * n)).take 64 = m at hbl2 ⊢
        refine JC.loopE (σ := Nat) (M := fun i => [(21, .int .i64 (i : Int)), (13, u32 (rs m v i).a), (14, u32 (rs m v i).b), (15, u32 (rs m v i).c), (16, u32 (rs m v i).d), (17, u32 (rs m v i).e), (18, u32 (rs m v i).f), (19, u32 (rs m v i).g), (20, u32 (rs m v i).h)]) (kp := [(2, _), (3, _), (4, _), (5, _), (6, _), (7, _)]) (hkp := (okE_cons rfl (okE_cons rfl (okE_cons rfl (okE_cons rfl (okE_cons rfl (okE_cons rfl okE_nil))))))) (Dc := fun i => [.box g6 203 ((wl m 64).map u32), .fro (.slice A (padded s).length kc) 5 (padded s).length ((padded s).map u8), .box g4 204 (vc v), .box g3 203 (kk.map u32), .box g2 30 (hc H.zero)]) (H := fun _ => F) (Ψ := fun i => i ≤ 64) (μ := fun i => 64 - i) 0 (by omega) (okE_cons rfl (okE_cons rfl (okE_cons rfl (okE_cons rfl (okE_cons rfl (okE_cons rfl (okE_cons rfl (okE_cons rfl (okE_cons rfl okE_nil))))))))) (fun w h => h) (fun i hi K29 againK29 => ?_)
        refine JC.seq fun K30 hK30 => ?_
        refine JC.seq fun K31 hK31 => ?_
        refine JC.region ?_
        refine J.yl (y_move rfl rfl) rfl rfl rfl ?_
        refine J.yl (y_lt rfl rfl rfl) rfl rfl rfl ?_
        refine J.nil ?_
        refine JQ.next hK31 ?_
        refine JC.condp rfl (fun h4 => ?_) (fun h4 => ?_)
        · refine JC.skip ?_
          refine JQ.next hK30 ?_
          refine JC.seq fun K32 hK32 => ?_
          refine JC.block ?_
          refine JC.seq fun K33 hK33 => ?_
          refine JC.draw (by kernel_rfl) ?_
          refine D.take 0 (y_move rfl rfl) rfl rfl rfl rfl (by kernel_rfl) (by kernel_rfl) (by kernel_rfl) (PQ.next (PQ.block (PQ.next (PQ.next (PQ.block (PQ.next (PQ.block (PQ.next (PQ.next (PQ.block (PQ.next PQ.body))))))))))) ?_
          refine D.take 1 (y_move rfl rfl) rfl rfl rfl rfl (by kernel_rfl) (by kernel_rfl) (by kernel_rfl) (PQ.next (PQ.block (PQ.next (PQ.next (PQ.block (PQ.next (PQ.block (PQ.next (PQ.next (PQ.block (PQ.next PQ.body))))))))))) ?_
          refine D.take 3 (y_move rfl rfl) rfl rfl rfl rfl (by kernel_rfl) (by kernel_rfl) (by kernel_rfl) (PQ.next (PQ.block (PQ.next (PQ.next (PQ.block (PQ.next (PQ.block (PQ.next (PQ.next (PQ.block (PQ.next PQ.body))))))))))) ?_
          refine D.take 6 (y_move rfl rfl) rfl rfl rfl rfl (by kernel_rfl) (by kernel_rfl) (by kernel_rfl) (PQ.next (PQ.block (PQ.next (PQ.next (PQ.block (PQ.next (PQ.block (PQ.next (PQ.next (PQ.block (PQ.next PQ.body))))))))))) ?_
          refine D.take 10 (y_move rfl rfl) rfl rfl rfl rfl (by kernel_rfl) (by kernel_rfl) (by kernel_rfl) (PQ.next (PQ.block (PQ.next (PQ.next (PQ.block (PQ.next (PQ.block (PQ.next (PQ.next (PQ.block (PQ.next PQ.body))))))))))) ?_
          refine D.take 11 (y_move rfl rfl) rfl rfl rfl rfl (by kernel_rfl) (by kernel_rfl) (by kernel_rfl) (PQ.next (PQ.block (PQ.next (PQ.next (PQ.block (PQ.next (PQ.block (PQ.next (PQ.next (PQ.block (PQ.next PQ.body))))))))))) ?_
          refine D.take 12 (y_and32 rfl rfl rfl) rfl rfl rfl rfl (by kernel_rfl) (by kernel_rfl) (by kernel_rfl) (PQ.next (PQ.block (PQ.next (PQ.next (PQ.block (PQ.next (PQ.block (PQ.next (PQ.next (PQ.block (PQ.next PQ.body))))))))))) ?_
          refine D.take 13 (y_move rfl rfl) rfl rfl rfl rfl (by kernel_rfl) (by kernel_rfl) (by kernel_rfl) (PQ.next (PQ.block (PQ.next (PQ.next (PQ.block (PQ.next (PQ.block (PQ.next (PQ.next (PQ.block (PQ.next PQ.body))))))))))) ?_
          refine D.take 14 (y_not32 rfl rfl) rfl rfl rfl rfl (by kernel_rfl) (by kernel_rfl) (by kernel_rfl) (PQ.next (PQ.block (PQ.next (PQ.next (PQ.block (PQ.next (PQ.block (PQ.next (PQ.next (PQ.block (PQ.next PQ.body))))))))))) ?_
          refine D.take 15 (y_move rfl rfl) rfl rfl rfl rfl (by kernel_rfl) (by kernel_rfl) (by kernel_rfl) (PQ.next (PQ.block (PQ.next (PQ.next (PQ.block (PQ.next (PQ.block (PQ.next (PQ.next (PQ.block (PQ.next PQ.body))))))))))) ?_
          refine D.take 16 (y_and32 rfl rfl rfl) rfl rfl rfl rfl (by kernel_rfl) (by kernel_rfl) (by kernel_rfl) (PQ.next (PQ.block (PQ.next (PQ.next (PQ.block (PQ.next (PQ.block (PQ.next (PQ.next (PQ.block (PQ.next PQ.body))))))))))) ?_
          refine D.take 17 (y_xor32 rfl rfl rfl) rfl rfl rfl rfl (by kernel_rfl) (by kernel_rfl) (by kernel_rfl) (PQ.next (PQ.block (PQ.next (PQ.next (PQ.block (PQ.next (PQ.block (PQ.next (PQ.next (PQ.block (PQ.next PQ.body))))))))))) ?_
          refine D.take 19 (y_move rfl rfl) rfl rfl rfl rfl (by kernel_rfl) (by kernel_rfl) (by kernel_rfl) (PQ.next (PQ.block (PQ.next (PQ.next (PQ.block (PQ.next (PQ.block (PQ.next (PQ.next (PQ.block (PQ.next PQ.body))))))))))) ?_
          refine D.take 23 (y_move rfl rfl) rfl rfl rfl rfl (by kernel_rfl) (by kernel_rfl) (by kernel_rfl) (PQ.next (PQ.block (PQ.next (PQ.next (PQ.block (PQ.next (PQ.block (PQ.next (PQ.next (PQ.block (PQ.next PQ.body))))))))))) ?_
          refine D.take 20 (y_ib1 i rfl Tryd.underlying203 Tb.sz202 rfl rfl rfl (by omega)) rfl rfl rfl rfl (by kernel_rfl) (by kernel_rfl) (by kernel_rfl) (PQ.next (PQ.block (PQ.next (PQ.next (PQ.block (PQ.next (PQ.block (PQ.next (PQ.next (PQ.block (PQ.next PQ.body))))))))))) ?_
          refine D.take 21 (y_lb 3 rfl Tb.ag202 rfl rfl (kk_get i (by omega))) rfl rfl rfl rfl (by kernel_rfl) (by kernel_rfl) (by kernel_rfl) (PQ.next (PQ.block (PQ.next (PQ.next (PQ.block (PQ.next (PQ.block (PQ.next (PQ.next (PQ.block (PQ.next PQ.body))))))))))) ?_
          refine D.take 24 (y_ib1 i rfl Tryd.underlying203 Tb.sz202 rfl rfl rfl (by omega)) rfl rfl rfl rfl (by kernel_rfl) (by kernel_rfl) (by kernel_rfl) (PQ.next (PQ.block (PQ.next (PQ.next (PQ.block (PQ.next (PQ.block (PQ.next (PQ.next (PQ.block (PQ.next PQ.body))))))))))) ?_
          refine D.take 25 (y_lb 0 rfl Tb.ag202 rfl rfl (wl_getm m 64 i (by omega))) rfl rfl rfl rfl (by kernel_rfl) (by kernel_rfl) (by kernel_rfl) (PQ.next (PQ.block (PQ.next (PQ.next (PQ.block (PQ.next (PQ.block (PQ.next (PQ.next (PQ.block (PQ.next PQ.body))))))))))) ?_
          refine D.callv 2 (by kernel_rfl) rfl rfl rfl rfl rfl Tb.cl162 rfl (turn_spec _ 6 (by decide)) ?_
          refine D.callv 4 (by kernel_rfl) rfl rfl rfl rfl rfl Tb.cl162 rfl (turn_spec _ 11 (by decide)) ?_
          refine D.take 5 (y_xor32 rfl rfl rfl) rfl rfl rfl rfl (by kernel_rfl) (by kernel_rfl) (by kernel_rfl) (PQ.next (PQ.block (PQ.next (PQ.next (PQ.block (PQ.next (PQ.block (PQ.next (PQ.next (PQ.block (PQ.next PQ.body))))))))))) ?_
          refine D.callv 7 (by kernel_rfl) rfl rfl rfl rfl rfl Tb.cl162 rfl (turn_spec _ 25 (by decide)) ?_
          refine D.take 8 (y_xor32 rfl rfl rfl) rfl rfl rfl rfl (by kernel_rfl) (by kernel_rfl) (by kernel_rfl) (PQ.next (PQ.block (PQ.next (PQ.next (PQ.block (PQ.next (PQ.block (PQ.next (PQ.next (PQ.block (PQ.next PQ.body))))))))))) ?_
          refine D.take 9 (y_add32 rfl rfl rfl) rfl rfl rfl rfl (by kernel_rfl) (by kernel_rfl) (by kernel_rfl) (PQ.next (PQ.block (PQ.next (PQ.next (PQ.block (PQ.next (PQ.block (PQ.next (PQ.next (PQ.block (PQ.next PQ.body))))))))))) ?_
          refine D.take 18 (y_add32 rfl rfl rfl) rfl rfl rfl rfl (by kernel_rfl) (by kernel_rfl) (by kernel_rfl) (PQ.next (PQ.block (PQ.next (PQ.next (PQ.block (PQ.next (PQ.block (PQ.next (PQ.next (PQ.block (PQ.next PQ.body))))))))))) ?_
          refine D.take 22 (y_add32 rfl rfl rfl) rfl rfl rfl rfl (by kernel_rfl) (by kernel_rfl) (by kernel_rfl) (PQ.next (PQ.block (PQ.next (PQ.next (PQ.block (PQ.next (PQ.block (PQ.next (PQ.next (PQ.block (PQ.next PQ.body))))))))))) ?_
          refine D.take 26 (y_add32 rfl rfl rfl) rfl rfl rfl rfl (by kernel_rfl) (by kernel_rfl) (by kernel_rfl) (PQ.next (PQ.block (PQ.next (PQ.next (PQ.block (PQ.next (PQ.block (PQ.next (PQ.next (PQ.block (PQ.next PQ.body))))))))))) ?_
          refine D.take 27 (y_assign rfl rfl) rfl rfl rfl rfl (by kernel_rfl) (by kernel_rfl) (by kernel_rfl) (PQ.next (PQ.block (PQ.next (PQ.next (PQ.block (PQ.next (PQ.block (PQ.next (PQ.next (PQ.block (PQ.next PQ.body))))))))))) ?_
          refine D.done (by kernel_rfl) ?_
          refine JQ.next hK33 ?_
          refine JC.seq fun K34 hK34 => ?_
          refine JC.region ?_
          refine J.yl (y_move rfl rfl) rfl rfl rfl ?_
          refine J.callv rfl rfl rfl rfl Tb.cl162 rfl (turn_spec _ 2 (by decide)) ?_
          refine J.yl (y_move rfl rfl) rfl rfl rfl ?_
          refine J.callv rfl rfl rfl rfl Tb.cl162 rfl (turn_spec _ 13 (by decide)) ?_
          refine J.yl (y_xor32 rfl rfl rfl) rfl rfl rfl ?_
          refine J.yl (y_move rfl rfl) rfl rfl rfl ?_
          refine J.callv rfl rfl rfl rfl Tb.cl162 rfl (turn_spec _ 22 (by decide)) ?_
          refine J.yl (y_xor32 rfl rfl rfl) rfl rfl rfl ?_
          refine J.yl (y_move rfl rfl) rfl rfl rfl ?_
          refine J.yl (y_move rfl rfl) rfl rfl rfl ?_
          refine J.yl (y_and32 rfl rfl rfl) rfl rfl rfl ?_
          refine J.yl (y_move rfl rfl) rfl rfl rfl ?_
          refine J.yl (y_move rfl rfl) rfl rfl rfl ?_
          refine J.yl (y_and32 rfl rfl rfl) rfl rfl rfl ?_
          refine J.yl (y_xor32 rfl rfl rfl) rfl rfl rfl ?_
          refine J.yl (y_move rfl rfl) rfl rfl rfl ?_
          refine J.yl (y_move rfl rfl) rfl rfl rfl ?_
          refine J.yl (y_and32 rfl rfl rfl) rfl rfl rfl ?_
          refine J.yl (y_xor32 rfl rfl rfl) rfl rfl rfl ?_
          refine J.yl (y_add32 rfl rfl rfl) rfl rfl rfl ?_
          refine J.yl (y_assign rfl rfl) rfl rfl rfl ?_
          refine J.nil ?_
          refine JQ.next hK34 ?_
          refine JC.region ?_
          refine J.yl (y_move rfl rfl) rfl rfl rfl ?_
          refine J.yl (y_move rfl rfl) rfl rfl rfl ?_
          refine J.yl (y_move rfl rfl) rfl rfl rfl ?_
          refine J.yl (y_move rfl rfl) rfl rfl rfl ?_
          refine J.yl (y_move rfl rfl) rfl rfl rfl ?_
          refine J.yl (y_add32 rfl rfl rfl) rfl rfl rfl ?_
          refine J.yl (y_move rfl rfl) rfl rfl rfl ?_
          refine J.yl (y_move rfl rfl) rfl rfl rfl ?_
          refine J.yl (y_move rfl rfl) rfl rfl rfl ?_
          refine J.yl (y_move rfl rfl) rfl rfl rfl ?_
          refine J.yl (y_move rfl rfl) rfl rfl rfl ?_
          refine J.yl (y_add32 rfl rfl rfl) rfl rfl rfl ?_
          refine J.yl (y_assign rfl rfl) rfl rfl rfl ?_
          refine J.yl (y_assign rfl rfl) rfl rfl rfl ?_
          refine J.yl (y_assign rfl rfl) rfl rfl rfl ?_
          refine J.yl (y_assign rfl rfl) rfl rfl rfl ?_
          refine J.yl (y_assign rfl rfl) rfl rfl rfl ?_
          refine J.yl (y_assign rfl rfl) rfl rfl rfl ?_
          refine J.yl (y_assign rfl rfl) rfl rfl rfl ?_
          refine J.yl (y_assign rfl rfl) rfl rfl rfl ?_
          refine J.nil ?_
          refine JQ.block_normal (JQ.next hK32 ?_)
          refine JC.region ?_
          refine J.yl (y_move rfl rfl) rfl rfl rfl ?_
          refine J.yl (y_add64 rfl rfl rfl (by omega)) rfl rfl rfl ?_
          refine J.yl (y_assign rfl rfl) rfl rfl rfl ?_
          refine J.nil ?_
          refine againK29 (i + 1) _ (by omega) (by omega) (okE_cons rfl (okE_cons rfl (okE_cons rfl (okE_cons rfl (okE_cons rfl (okE_cons rfl (okE_cons rfl (okE_cons rfl (okE_cons rfl okE_nil))))))))) (okE_cons rfl (okE_cons rfl (okE_cons rfl (okE_cons rfl (okE_cons rfl (okE_cons rfl okE_nil))))))
        · obtain rfl : i = 64 := by omega
          refine JC.exit ?_
          refine JQ.then_exit (JQ.then_exit (JQ.block_hit (JQ.next hK27 ?_)))
          refine JC.region ?_
          refine J.yl (y_ib rfl Tryd.underlying204 Tb.sz202 rfl rfl (by decide)) rfl rfl rfl ?_
          refine J.yl (y_lb 2 rfl Tb.ag202 rfl rfl rfl) rfl rfl rfl ?_
          refine J.yl (y_move rfl rfl) rfl rfl rfl ?_
          refine J.yl (y_add32 rfl rfl rfl) rfl rfl rfl ?_
          refine J.yl (y_ib rfl Tryd.underlying204 Tb.sz202 rfl rfl (by decide)) rfl rfl rfl ?_
          refine J.yl (y_lb 2 rfl Tb.ag202 rfl rfl rfl) rfl rfl rfl ?_
          refine J.yl (y_move rfl rfl) rfl rfl rfl ?_
          refine J.yl (y_add32 rfl rfl rfl) rfl rfl rfl ?_
          refine J.yl (y_ib rfl Tryd.underlying204 Tb.sz202 rfl rfl (by decide)) rfl rfl rfl ?_
          refine J.yl (y_lb 2 rfl Tb.ag202 rfl rfl rfl) rfl rfl rfl ?_
          refine J.yl (y_move rfl rfl) rfl rfl rfl ?_
          refine J.yl (y_add32 rfl rfl rfl) rfl rfl rfl ?_
          refine J.yl (y_ib rfl Tryd.underlying204 Tb.sz202 rfl rfl (by decide)) rfl rfl rfl ?_
          refine J.yl (y_lb 2 rfl Tb.ag202 rfl rfl rfl) rfl rfl rfl ?_
          refine J.yl (y_move rfl rfl) rfl rfl rfl ?_
          refine J.yl (y_add32 rfl rfl rfl) rfl rfl rfl ?_
          refine J.yl (y_ib rfl Tryd.underlying204 Tb.sz202 rfl rfl (by decide)) rfl rfl rfl ?_
          refine J.yl (y_lb 2 rfl Tb.ag202 rfl rfl rfl) rfl rfl rfl ?_
          refine J.yl (y_move rfl rfl) rfl rfl rfl ?_
          refine J.yl (y_add32 rfl rfl rfl) rfl rfl rfl ?_
          refine J.yl (y_ib rfl Tryd.underlying204 Tb.sz202 rfl rfl (by decide)) rfl rfl rfl ?_
          refine J.yl (y_lb 2 rfl Tb.ag202 rfl rfl rfl) rfl rfl rfl ?_
          refine J.yl (y_move rfl rfl) rfl rfl rfl ?_
          refine J.yl (y_add32 rfl rfl rfl) rfl rfl rfl ?_
          refine J.yl (y_ib rfl Tryd.underlying204 Tb.sz202 rfl rfl (by decide)) rfl rfl rfl ?_
          refine J.yl (y_lb 2 rfl Tb.ag202 rfl rfl rfl) rfl rfl rfl ?_
          refine J.yl (y_move rfl rfl) rfl rfl rfl ?_
          refine J.yl (y_add32 rfl rfl rfl) rfl rfl rfl ?_
          refine J.yl (y_ib rfl Tryd.underlying204 Tb.sz202 rfl rfl (by decide)) rfl rfl rfl ?_
          refine J.yl (y_lb 2 rfl Tb.ag202 rfl rfl rfl) rfl rfl rfl ?_
          refine J.yl (y_move rfl rfl) rfl rfl rfl ?_
          refine J.yl (y_add32 rfl rfl rfl) rfl rfl rfl ?_
          refine J.yl (y_ib rfl Tryd.underlying204 Tb.sz202 rfl rfl (by decide)) rfl rfl rfl ?_
          refine J.store1 2 rfl rfl rfl rfl rfl rfl rfl Tb.sz202 (by first | (simp; done) | exact Nat.le_of_ble_eq_true rfl) rfl ?_
          refine J.yl (y_ib rfl Tryd.underlying204 Tb.sz202 rfl rfl (by decide)) rfl rfl rfl ?_
          refine J.store1 2 rfl rfl rfl rfl rfl rfl rfl Tb.sz202 (by first | (simp; done) | exact Nat.le_of_ble_eq_true rfl) rfl ?_
          refine J.yl (y_ib rfl Tryd.underlying204 Tb.sz202 rfl rfl (by decide)) rfl rfl rfl ?_
          refine J.store1 2 rfl rfl rfl rfl rfl rfl rfl Tb.sz202 (by first | (simp; done) | exact Nat.le_of_ble_eq_true rfl) rfl ?_
          refine J.yl (y_ib rfl Tryd.underlying204 Tb.sz202 rfl rfl (by decide)) rfl rfl rfl ?_
          refine J.store1 2 rfl rfl rfl rfl rfl rfl rfl Tb.sz202 (by first | (simp; done) | exact Nat.le_of_ble_eq_true rfl) rfl ?_
          refine J.yl (y_ib rfl Tryd.underlying204 Tb.sz202 rfl rfl (by decide)) rfl rfl rfl ?_
          refine J.store1 2 rfl rfl rfl rfl rfl rfl rfl Tb.sz202 (by first | (simp; done) | exact Nat.le_of_ble_eq_true rfl) rfl ?_
          refine J.yl (y_ib rfl Tryd.underlying204 Tb.sz202 rfl rfl (by decide)) rfl rfl rfl ?_
          refine J.store1 2 rfl rfl rfl rfl rfl rfl rfl Tb.sz202 (by first | (simp; done) | exact Nat.le_of_ble_eq_true rfl) rfl ?_
          refine J.yl (y_ib rfl Tryd.underlying204 Tb.sz202 rfl rfl (by decide)) rfl rfl rfl ?_
          refine J.store1 2 rfl rfl rfl rfl rfl rfl rfl Tb.sz202 (by first | (simp; done) | exact Nat.le_of_ble_eq_true rfl) rfl ?_
          refine J.yl (y_ib rfl Tryd.underlying204 Tb.sz202 rfl rfl (by decide)) rfl rfl rfl ?_
          refine J.store1 2 rfl rfl rfl rfl rfl rfl rfl Tb.sz202 (by first | (simp; done) | exact Nat.le_of_ble_eq_true rfl) rfl ?_
          refine J.nil ?_
          refine JQ.block_normal (JQ.next hK11 ?_)
          refine JC.region ?_
          refine J.yl (y_move rfl rfl) rfl rfl rfl ?_
          refine J.yl (y_add64 rfl rfl rfl (by omega)) rfl rfl rfl ?_
          refine J.yl (y_assign rfl rfl) rfl rfl rfl ?_
          refine J.nil ?_
          refine againK8 (n + 1, comp v m, wl m 64) _ ⟨by dsimp only; omega, length_wl _ _, hbl2⟩ (by dsimp only; omega) (okE_cons (slotI (by dsimp only; omega)) okE_nil) (okE_cons rfl (okE_cons rfl (okE_cons rfl (okE_cons rfl (okE_cons rfl okE_nil)))))
  · have hn3 : 64 * n = (padded s).length := by omega
    have hvv : v = bls ((padded s).length / 64) v0 (padded s) := by
      rw [← hbl, show (padded s).length / 64 - n = 0 by omega]; rfl
    subst hvv
    refine JC.exit ?_
    refine JQ.then_exit (JQ.then_exit (JQ.block_hit (JQ.next hK6 ?_)))
    refine JC.seq fun K35 hK35 => ?_
    refine JC.region ?_
    refine J.alloc rfl rfl rfl rfl Tb.zz30 rfl fun g24 => ?_
    refine J.nil ?_
    refine JQ.next hK35 ?_
    refine JC.seq fun K36 hK36 => ?_
    refine JC.seq fun K37 hK37 => ?_
    refine JC.region ?_
    refine J.yl (y_assign rfl rfl) rfl rfl rfl ?_
    refine J.nil ?_
    refine JQ.next hK37 ?_
    refine JC.block ?_
    generalize hv' : bls ((padded s).length / 64) v0 (padded s) = v
    refine JC.loopE (σ := Nat) (M := fun i => [(25, .int .i64 (i : Int))]) (kp := [(2, _), (4, _), (24, _)]) (hkp := (okE_cons rfl (okE_cons rfl (okE_cons rfl okE_nil)))) (Dc := fun i => [.box g24 30 (((out v).take i ++ List.replicate (32 - i) 0).map u8), .box g6 203 (ws.map u32), .fro (.slice A (padded s).length kc) 5 (padded s).length ((padded s).map u8), .box g4 204 (vc v), .box g3 203 (kk.map u32), .box g2 30 (hc H.zero)]) (H := fun _ => F) (Ψ := fun i => i ≤ 32) (μ := fun i => 32 - i) 0 (by omega) (okE_cons rfl okE_nil) (fun w h => h) (fun i hi K38 againK38 => ?_)
    refine JC.seq fun K39 hK39 => ?_
    refine JC.seq fun K40 hK40 => ?_
    refine JC.region ?_
    refine J.yl (y_move rfl rfl) rfl rfl rfl ?_
    refine J.yl (y_lt rfl rfl rfl) rfl rfl rfl ?_
    refine J.nil ?_
    refine JQ.next hK40 ?_
    refine JC.condp rfl (fun h7 => ?_) (fun h7 => ?_)
    · refine JC.skip ?_
      refine JQ.next hK39 ?_
      refine JC.seq fun K41 hK41 => ?_
      refine JC.block ?_
      refine JC.region ?_
      refine J.yl (y_move rfl rfl) rfl rfl rfl ?_
      refine J.yl (y_move rfl rfl) rfl rfl rfl ?_
      refine J.yl (y_quo64 rfl rfl rfl (by omega)) rfl rfl rfl ?_
      refine J.yl (y_ib1 (i / 4) rfl Tryd.underlying204 Tb.sz202 rfl rfl (by omega) (by omega)) rfl rfl rfl ?_
      refine J.yl (y_lb 3 rfl Tb.ag202 rfl rfl (l_get v (i / 4) (by omega))) rfl rfl rfl ?_
      refine J.yl (y_move rfl rfl) rfl rfl rfl ?_
      refine J.yl (y_rem64 rfl rfl rfl (by omega)) rfl rfl rfl ?_
      refine J.yl (y_mul64 rfl rfl rfl (by omega)) rfl rfl rfl ?_
      refine J.yl (y_sub64 rfl rfl rfl (by omega)) rfl rfl rfl ?_
      refine J.yl (y_shr32N (24 - 8 * (i % 4)) rfl rfl rfl (by omega) (by omega)) rfl rfl rfl ?_
      refine J.yl (y_32to8 rfl (isS Tryd.underlying202) Tryd.underlying5 rfl) rfl rfl rfl ?_
      refine J.yl (y_ib1 i rfl Tryd.underlying30 Tb.sz5 rfl rfl rfl (by omega)) rfl rfl rfl ?_
      refine J.store1c (cs' := ((out v).take (i + 1) ++ List.replicate (32 - (i + 1)) 0).map u8) 0 rfl rfl rfl rfl rfl rfl rfl Tb.sz5 rfl (by simp [length_out]; omega) (take_set_cells (out v) 32 i _ (length_out v) (by omega) (out_get v i (by omega))) ?_
      refine J.nil ?_
      refine JQ.block_normal (JQ.next hK41 ?_)
      refine JC.region ?_
      refine J.yl (y_move rfl rfl) rfl rfl rfl ?_
      refine J.yl (y_add64 rfl rfl rfl (by omega)) rfl rfl rfl ?_
      refine J.yl (y_assign rfl rfl) rfl rfl rfl ?_
      refine J.nil ?_
      refine againK38 (i + 1) _ (by omega) (by omega) (okE_cons rfl okE_nil) (okE_cons rfl (okE_cons rfl (okE_cons rfl okE_nil)))
    · obtain rfl : i = 32 := by omega
      have he : ((out v).take 32 ++ List.replicate (32 - 32) 0).map u8 = hc ⟨out v, length_out v⟩ := by
        rw [List.take_of_length_le (by rw [length_out]; exact Nat.le_refl _)]; simp [hc]
      rw [he]
      have hsha : sha s = ⟨out v, length_out v⟩ := by subst hv'; rfl
      refine JC.exit ?_
      refine JQ.then_exit (JQ.then_exit (JQ.block_hit (JQ.next hK36 ?_)))
      refine JC.seq fun K42 hK42 => ?_
      refine JC.region ?_
      refine J.yl (y_lbW 0 rfl Tb.ag30 Tb.sz30 (hcl _) rfl rfl) rfl rfl rfl ?_
      refine J.storeW 5 rfl rfl rfl rfl rfl rfl rfl Tb.sz30 (hcl _) (hcl _) (hc1 _) ?_
      refine J.nil ?_
      refine JQ.next hK42 ?_
      refine JC.ret ?_
      exact ret1 rfl (r_cellA 5 rfl rfl Tb.ag30 (by rw [hcl]; exact Tb.sz30)) fun w hs => by rw [hsha]; exact Post.pure hs
end Go.Proofs.YtjkfeonbioccmaaDoor
