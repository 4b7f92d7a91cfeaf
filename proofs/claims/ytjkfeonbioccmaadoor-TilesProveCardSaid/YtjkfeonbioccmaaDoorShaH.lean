/- Speculum proofs: contracts of the reference's hash. -/
import Derived.Test.YtjkfeonbioccmaaDoorShaG
namespace Go.Proofs.YtjkfeonbioccmaaDoor
open Go Go.Sx Go.RowKit
set_option linter.unusedVariables false
set_option linter.unusedSimpArgs false
set_option maxRecDepth 100000
set_option maxHeartbeats 4000000
variable {Gl F : World → Prop}

theorem pad_spec (s : List UInt8) (hl : s.length ≤ 1000000000) : FnSpec Tryd.prog Gl 161 [str s] [] F (ι := Option Addr × Nat) (fun _ => True) (fun i => .slice i.1 (padded s).length i.2) (fun i => [.fro (.slice i.1 (padded s).length i.2) 5 (padded s).length ((padded s).map u8)]) (fun _ _ => True) := by
  have hlp := length_padded s
  have hpn : padN s.length < 64 := by unfold padN; omega
  have h64 := padded_64 s
  refine FnSpec.intro Tryd.func161 rfl Tryd.ntmps161 rfl fun X M w => ?_
  refine JC.seq fun K1 hK1 => ?_
  refine JC.region ?_
  refine J.yl (y_assign rfl rfl) rfl rfl rfl ?_
  refine J.nil ?_
  refine JQ.next hK1 ?_
  refine JC.seq fun K2 hK2 => ?_
  refine JC.region ?_
  refine J.yl (y_move rfl rfl) rfl rfl rfl ?_
  refine J.s2b rfl rfl rfl rfl Tryd.underlying9 Tryd.underlying205 Tryd.underlying5 rfl (by omega) fun Ar7 kr7 => ?_
  refine J.bs1 rfl rfl rfl rfl rfl Tryd.underlying205 Tb.zz5 Tb.sz5 rfl (by decide) rfl rfl fun g8 => ?_
  refine J.appendB 1 rfl rfl rfl rfl rfl rfl Tryd.underlying205 Tb.zz5 Tb.sz5 Tb.by5 rfl rfl rfl (fun w hs => At.box (hs.get (i := 0) rfl)) (one1 rfl) (by omega) (by decide) (show _ = (s ++ [128]).length by simp) (show _ = (s ++ [128]).map u8 by rw [List.map_append]; rfl) fun A k => ?_
  refine J.drop ?_
  refine J.yl (y_assign rfl rfl) rfl rfl rfl ?_
  refine J.nil ?_
  refine JQ.next hK2 ?_
  refine JC.seq fun K4 hK4 => ?_
  refine JC.block ?_
  refine JC.loopE (σ := Option Addr × Nat × List UInt8) (M := fun q => [(3, .slice q.1 q.2.2.length q.2.1)]) (kp := [(0, _)]) (hkp := (okE_cons rfl okE_nil)) (Dc := fun q => [.fro (.slice q.1 q.2.2.length q.2.1) 5 q.2.2.length (q.2.2.map u8)]) (H := fun _ => F) (Ψ := fun q => ∃ j, j ≤ padN s.length ∧ q.2.2 = s ++ [128] ++ List.replicate j 0) (μ := fun q => 2000000000 - q.2.2.length) (A, k, s ++ [128]) ⟨0, by omega, by simp⟩ (okE_cons rfl okE_nil) (fun w h => h) (fun sK5 hK5 K5 againK5 => ?_)
  obtain ⟨A, k, l⟩ := sK5
  dsimp only at hK5 againK5 ⊢
  obtain ⟨j, hj, hl'⟩ := hK5
  refine JC.seq fun K6 hK6 => ?_
  refine JC.seq fun K7 hK7 => ?_
  refine JC.region ?_
  refine J.yl (y_move rfl rfl) rfl rfl rfl ?_
  refine J.yl (y_len rfl Tryd.underlying205 rfl) rfl rfl rfl ?_
  refine J.yl (y_rem64 rfl rfl rfl (by omega)) rfl rfl rfl ?_
  refine J.yl (y_ne rfl rfl rfl) rfl rfl rfl ?_
  refine J.nil ?_
  refine JQ.next hK7 ?_
  have hll : l.length = s.length + 1 + j := by rw [hl']; simp; omega
  refine JC.condn rfl (fun h1 => ?_) (fun h1 => ?_)
  · refine JC.skip ?_
    refine JQ.next hK6 ?_
    refine JC.block ?_
    refine JC.region ?_
    refine J.yl (y_move rfl rfl) rfl rfl rfl ?_
    refine J.bs1 rfl rfl rfl rfl rfl Tryd.underlying205 Tb.zz5 Tb.sz5 rfl (by decide) rfl rfl fun g15 => ?_
    refine J.appendB 1 rfl rfl rfl rfl rfl rfl Tryd.underlying205 Tb.zz5 Tb.sz5 Tb.by5 rfl rfl rfl (fun w hs => At.box (hs.get (i := 0) rfl)) (one1 rfl) (by omega) (by decide) (show _ = (l ++ [0]).length by simp) (show _ = (l ++ [0]).map u8 by rw [List.map_append]; rfl) fun A k => ?_
    refine J.drop ?_
    refine J.yl (y_assign rfl rfl) rfl rfl rfl ?_
    refine J.nil ?_
    refine JQ.block_normal ?_
    have hj2 : j ≠ padN s.length := by
      rintro rfl
      apply h1
      unfold padN at hll
      omega
    refine againK5 (A, k, l ++ [0]) _ ⟨j + 1, by omega, by rw [hl', List.replicate_succ']; simp⟩ (by simp; omega) (okE_cons rfl okE_nil) (okE_cons rfl okE_nil)
  · have hj2 : j = padN s.length := by
      have h2 : (l.length : Int) % 64 = 56 := by simpa using h1
      unfold padN at hj ⊢
      omega
    subst hj2
    refine JC.exit ?_
    refine JQ.then_exit (JQ.then_exit (JQ.block_hit (JQ.next hK4 ?_)))
    refine JC.seq fun K9 hK9 => ?_
    refine JC.region ?_
    refine J.yl (y_move rfl rfl) rfl rfl rfl ?_
    refine J.yl (y_slen (ty := 0) rfl Tryd.underlying9 rfl) rfl rfl rfl ?_
    refine J.yl (y_ito64 rfl (isS Tryd.underlying3) Tryd.underlying212 rfl (by omega)) rfl rfl rfl ?_
    refine J.yl (y_mul_u64 (b := 8) rfl rfl rfl) rfl rfl rfl ?_
    refine J.yl (y_assign rfl rfl) rfl rfl rfl ?_
    refine J.nil ?_
    refine JQ.next hK9 ?_
    refine JC.seq fun K10 hK10 => ?_
    refine JC.seq fun K11 hK11 => ?_
    refine JC.region ?_
    refine J.yl (y_assign rfl rfl) rfl rfl rfl ?_
    refine J.nil ?_
    refine JQ.next hK11 ?_
    refine JC.block ?_
    refine JC.loopE (σ := Option Addr × Nat × Nat × List UInt8) (M := fun q => [(5, .int .i64 ((q.2.2.1 : Int) - 1)), (3, .slice q.1 q.2.2.2.length q.2.1)]) (kp := [(0, _), (4, _)]) (hkp := (okE_cons rfl (okE_cons rfl okE_nil))) (Dc := fun q => [.fro (.slice q.1 q.2.2.2.length q.2.1) 5 q.2.2.2.length (q.2.2.2.map u8)]) (H := fun _ => F) (Ψ := fun q => q.2.2.1 ≤ 8 ∧ q.2.2.2 ++ putB (UInt64.ofNat s.length * 8) q.2.2.1 = padded s) (μ := fun q => q.2.2.1) (A, k, 8, l) ⟨Nat.le_refl 8, by rw [hl']; rfl⟩ (okE_cons rfl (okE_cons rfl okE_nil)) (fun w h => h) (fun sK12 hK12 K12 againK12 => ?_)
    obtain ⟨A, k, i, l⟩ := sK12
    dsimp only at hK12 againK12 ⊢
    obtain ⟨hi, hl2⟩ := hK12
    refine JC.seq fun K13 hK13 => ?_
    refine JC.seq fun K14 hK14 => ?_
    refine JC.region ?_
    refine J.yl (y_move rfl rfl) rfl rfl rfl ?_
    refine J.yl (y_ge rfl rfl rfl) rfl rfl rfl ?_
    refine J.nil ?_
    refine JQ.next hK14 ?_
    have hll2 : l.length + i = (padded s).length := by rw [← hl2]; simp [length_putB]
    refine JC.condp rfl (fun h2 => ?_) (fun h2 => ?_)
    · obtain ⟨i, rfl⟩ : ∃ n, i = n + 1 := ⟨i - 1, by omega⟩
      refine JC.skip ?_
      refine JQ.next hK13 ?_
      refine JC.seq fun K15 hK15 => ?_
      refine JC.block ?_
      refine JC.region ?_
      refine J.yl (y_move rfl rfl) rfl rfl rfl ?_
      refine J.yl (y_move rfl rfl) rfl rfl rfl ?_
      refine J.yl (y_move rfl rfl) rfl rfl rfl ?_
      refine J.yl (y_mul64 rfl rfl rfl (by omega)) rfl rfl rfl ?_
      refine J.yl (y_shr_u64N (8 * i) rfl rfl rfl (by omega) (by omega)) rfl rfl rfl ?_
      refine J.yl (y_64to8 rfl (isS Tryd.underlying212) Tryd.underlying5 rfl) rfl rfl rfl ?_
      refine J.bs1 rfl rfl rfl rfl rfl Tryd.underlying205 Tb.zz5 Tb.sz5 rfl (by decide) rfl rfl fun g31 => ?_
      refine J.appendB 1 rfl rfl rfl rfl rfl rfl Tryd.underlying205 Tb.zz5 Tb.sz5 Tb.by5 rfl rfl rfl (fun w hs => At.box (hs.get (i := 0) rfl)) (one1 rfl) (by omega) (by decide) (show _ = (l ++ [((UInt64.ofNat s.length * 8) >>> UInt64.ofNat (8 * i)).toUInt8]).length by simp) (show _ = (l ++ [((UInt64.ofNat s.length * 8) >>> UInt64.ofNat (8 * i)).toUInt8]).map u8 by rw [List.map_append]; rfl) fun A k => ?_
      refine J.drop ?_
      refine J.yl (y_assign rfl rfl) rfl rfl rfl ?_
      refine J.nil ?_
      refine JQ.block_normal (JQ.next hK15 ?_)
      refine JC.region ?_
      refine J.yl (y_move rfl rfl) rfl rfl rfl ?_
      refine J.yl (y_sub64 rfl rfl rfl (by omega)) rfl rfl rfl ?_
      refine J.yl (y_assign rfl rfl) rfl rfl rfl ?_
      refine J.nil ?_
      refine againK12 (A, k, i, l ++ [((UInt64.ofNat s.length * 8) >>> UInt64.ofNat (8 * i)).toUInt8]) _ ⟨by dsimp only; omega, by rw [← hl2, List.append_assoc]; rfl⟩ (by dsimp only; omega) (okE_cons (slotI (by dsimp only; omega)) (okE_cons rfl okE_nil)) (okE_cons rfl (okE_cons rfl okE_nil))
    · obtain rfl : i = 0 := by omega
      have hl3 : l = padded s := by rw [← hl2, putB, List.append_nil]
      subst hl3
      refine JC.exit ?_
      refine JQ.then_exit (JQ.then_exit (JQ.block_hit (JQ.next hK10 ?_)))
      refine JC.seq fun K17 hK17 => ?_
      refine JC.region ?_
      refine J.yl (y_move rfl rfl) rfl rfl rfl ?_
      refine J.yl (y_assign rfl rfl) rfl rfl rfl ?_
      refine J.nil ?_
      refine JQ.next hK17 ?_
      refine JC.ret ?_
      exact ret1 rfl (r_tmp rfl) fun w hs => Post.of_st hs (A, k) trivial (List.Sublist.refl _) fun _ _ => trivial
end Go.Proofs.YtjkfeonbioccmaaDoor
