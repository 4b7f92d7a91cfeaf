/- Speculum proofs: contracts: bits that are 1, ranges that may be, ranges that are the same. -/
/- Speculum proofs: contracts: ranges that are copied, pushed behind, extended. -/
/- Speculum proofs: contracts: ranges that are extended; parts of leaves. -/
/- Speculum proofs: contracts: a leaf more, a range of leaves, parts, ranges that are merged. -/
/- Speculum proofs: contracts: ranges that are merged. -/
import Derived.Test.YtjkfeonbioccmaaDoorMh
import Derived.Test.YtjkfeonbioccmaaDoorMf
import Derived.Test.YtjkfeonbioccmaaDoorMe
namespace Go.Proofs.YtjkfeonbioccmaaDoor
open Go Go.Sx Go.RowKit
set_option linter.unusedVariables false
set_option linter.unusedSimpArgs false
set_option maxRecDepth 100000
set_option maxHeartbeats 2000000
variable {Gl F : World → Prop}
theorem oc64_fn (n : Nat) (h : n ≤ 4096) : PureFn Tryd.prog Gl 205 [.int .u64 (n : Int)] F (.int .i64 (ones n : Int)) := by
  obtain ⟨h1, h2, h3, h4, h5, h6⟩ := oc_le n h
  have ho := oc_ones n h
  have hl := and_le (oc n) 127
  refine FnSpec.intro Tryd.func205 rfl Tryd.ntmps205 rfl fun X M w => ?_
  refine JC.seq fun K1 hK1 => ?_
  refine JC.region ?_
  refine J.yl (y_assign rfl rfl) rfl rfl rfl ?_
  refine J.nil ?_
  refine JQ.next hK1 ?_
  refine JC.seq fun K2 hK2 => ?_
  refine JC.region ?_
  refine J.yl (y_move rfl rfl) rfl rfl rfl ?_
  refine J.yl (y_shrN n 1 rfl rfl rfl rfl rfl (by decide)) rfl rfl rfl ?_
  refine J.yl (y_andN (n / 2 ^ 1) 6148914691236517205 rfl rfl rfl rfl rfl (by omega) (by decide)) rfl rfl rfl ?_
  refine J.yl (y_move rfl rfl) rfl rfl rfl ?_
  refine J.yl (y_andN n 6148914691236517205 rfl rfl rfl rfl rfl (by omega) (by decide)) rfl rfl rfl ?_
  refine J.yl ((y_addU (n / 2 ^ 1 &&& 6148914691236517205) (n &&& 6148914691236517205) rfl rfl rfl rfl rfl (by show oc1 n < _; omega)).to (v' := .int .u64 ((oc1 n : Nat) : Int)) rfl) rfl rfl rfl ?_
  refine J.yl (y_assign rfl rfl) rfl rfl rfl ?_
  refine J.nil ?_
  refine JQ.next hK2 ?_
  refine JC.seq fun K3 hK3 => ?_
  refine JC.region ?_
  refine J.yl (y_move rfl rfl) rfl rfl rfl ?_
  obtain ⟨m1, hm1⟩ : ∃ m, oc1 n = m := ⟨_, rfl⟩
  rw [hm1] at h1 ⊢
  refine J.yl (y_shrN m1 2 rfl rfl rfl rfl rfl (by decide)) rfl rfl rfl ?_
  refine J.yl (y_andN (m1 / 2 ^ 2) 3689348814741910323 rfl rfl rfl rfl rfl (by omega) (by decide)) rfl rfl rfl ?_
  refine J.yl (y_move rfl rfl) rfl rfl rfl ?_
  refine J.yl (y_andN m1 3689348814741910323 rfl rfl rfl rfl rfl (by omega) (by decide)) rfl rfl rfl ?_
  refine J.yl ((y_addU (m1 / 2 ^ 2 &&& 3689348814741910323) (m1 &&& 3689348814741910323) rfl rfl rfl rfl rfl (by have := and_le (m1 / 2 ^ 2) 3689348814741910323; have := and_le m1 3689348814741910323; omega)).to (v' := .int .u64 ((oc2 m1 : Nat) : Int)) rfl) rfl rfl rfl ?_
  refine J.yl (y_assign rfl rfl) rfl rfl rfl ?_
  refine J.nil ?_
  refine JQ.next hK3 ?_
  refine JC.seq fun K4 hK4 => ?_
  refine JC.region ?_
  refine J.yl (y_move rfl rfl) rfl rfl rfl ?_
  obtain ⟨m2, hm2⟩ : ∃ m, oc2 m1 = m := ⟨_, rfl⟩
  rw [hm1, hm2] at h2
  rw [hm2]
  refine J.yl (y_shrN m2 4 rfl rfl rfl rfl rfl (by decide)) rfl rfl rfl ?_
  refine J.yl (y_move rfl rfl) rfl rfl rfl ?_
  refine J.yl (y_addU (m2 / 2 ^ 4) m2 rfl rfl rfl rfl rfl (by omega)) rfl rfl rfl ?_
  refine J.yl ((y_andN (m2 / 2 ^ 4 + m2) 1085102592571150095 rfl rfl rfl rfl rfl (by omega) (by decide)).to (v' := .int .u64 ((oc3 m2 : Nat) : Int)) rfl) rfl rfl rfl ?_
  refine J.yl (y_assign rfl rfl) rfl rfl rfl ?_
  refine J.nil ?_
  refine JQ.next hK4 ?_
  refine JC.seq fun K5 hK5 => ?_
  refine JC.region ?_
  refine J.yl (y_move rfl rfl) rfl rfl rfl ?_
  refine J.yl (y_move rfl rfl) rfl rfl rfl ?_
  obtain ⟨m3, hm3⟩ : ∃ m, oc3 m2 = m := ⟨_, rfl⟩
  rw [hm1, hm2, hm3] at h3
  rw [hm3]
  refine J.yl (y_shrN m3 8 rfl rfl rfl rfl rfl (by decide)) rfl rfl rfl ?_
  refine J.yl ((y_addU m3 (m3 / 2 ^ 8) rfl rfl rfl rfl rfl (by omega)).to (v' := .int .u64 ((oc4 m3 : Nat) : Int)) rfl) rfl rfl rfl ?_
  refine J.yl (y_assign rfl rfl) rfl rfl rfl ?_
  refine J.nil ?_
  refine JQ.next hK5 ?_
  refine JC.seq fun K6 hK6 => ?_
  refine JC.region ?_
  refine J.yl (y_move rfl rfl) rfl rfl rfl ?_
  refine J.yl (y_move rfl rfl) rfl rfl rfl ?_
  obtain ⟨m4, hm4⟩ : ∃ m, oc4 m3 = m := ⟨_, rfl⟩
  rw [hm1, hm2, hm3, hm4] at h4
  rw [hm4]
  refine J.yl (y_shrN m4 16 rfl rfl rfl rfl rfl (by decide)) rfl rfl rfl ?_
  refine J.yl ((y_addU m4 (m4 / 2 ^ 16) rfl rfl rfl rfl rfl (by omega)).to (v' := .int .u64 ((oc5 m4 : Nat) : Int)) rfl) rfl rfl rfl ?_
  refine J.yl (y_assign rfl rfl) rfl rfl rfl ?_
  refine J.nil ?_
  refine JQ.next hK6 ?_
  refine JC.seq fun K7 hK7 => ?_
  refine JC.region ?_
  refine J.yl (y_move rfl rfl) rfl rfl rfl ?_
  refine J.yl (y_move rfl rfl) rfl rfl rfl ?_
  obtain ⟨m5, hm5⟩ : ∃ m, oc5 m4 = m := ⟨_, rfl⟩
  rw [hm1, hm2, hm3, hm4, hm5] at h5
  rw [hm5]
  refine J.yl (y_shrN m5 32 rfl rfl rfl rfl rfl (by decide)) rfl rfl rfl ?_
  refine J.yl ((y_addU m5 (m5 / 2 ^ 32) rfl rfl rfl rfl rfl (by omega)).to (v' := .int .u64 ((oc6 m5 : Nat) : Int)) rfl) rfl rfl rfl ?_
  refine J.yl (y_assign rfl rfl) rfl rfl rfl ?_
  refine J.nil ?_
  refine JQ.next hK7 ?_
  refine JC.seq fun K8 hK8 => ?_
  refine JC.region ?_
  refine J.yl (y_move rfl rfl) rfl rfl rfl ?_
  have h66 : oc6 m5 = oc n := by unfold oc; rw [hm1, hm2, hm3, hm4, hm5]
  rw [h66]
  refine J.yl (y_conv rfl (isS Tryd.underlying212) Tryd.underlying3 rfl (by rw [IntKind.wrap_i64]; omega : IntKind.i64.wrap ((oc n : Nat) : Int) = ((oc n : Nat) : Int))) rfl rfl rfl ?_
  refine J.yl ((y_andNN (oc n) 127 rfl rfl rfl rfl rfl (by omega) (by decide)).to (by rw [ho])) rfl rfl rfl ?_
  refine J.yl (y_assign rfl rfl) rfl rfl rfl ?_
  refine J.nil ?_
  refine JQ.next hK8 ?_
  refine JC.ret ?_
  exact ret1 rfl (r_tmp rfl) fun w hs => Post.pure hs
theorem occ_fn (n : Nat) (h : n ≤ 4096) : PureFn Tryd.prog Gl 173 [.int .u64 (n : Int)] F (.int .i64 (ones n : Int)) := by
  refine FnSpec.intro Tryd.func173 rfl Tryd.ntmps173 rfl fun X M w => ?_
  refine JC.seq fun K1 hK1 => ?_
  refine JC.region ?_
  refine J.yl (y_assign rfl rfl) rfl rfl rfl ?_
  refine J.nil ?_
  refine JQ.next hK1 ?_
  refine JC.seq fun K2 hK2 => ?_
  refine JC.no rfl ?_
  refine JC.skip ?_
  refine JQ.next hK2 ?_
  refine JC.seq fun K3 hK3 => ?_
  refine JC.region ?_
  refine J.yl (y_move rfl rfl) rfl rfl rfl ?_
  refine J.callv rfl rfl rfl rfl Tb.cl205 rfl (oc64_fn n h) ?_
  refine J.yl (y_assign rfl rfl) rfl rfl rfl ?_
  refine J.nil ?_
  refine JQ.next hK3 ?_
  refine JC.ret ?_
  exact ret1 rfl (r_tmp rfl) fun w hs => Post.pure hs
theorem ones_fn (n : Nat) (z : Int) (hz : z = n) (h : n ≤ 4096) : PureFn Tryd.prog Gl 137 [.int .i64 z] F (.int .i64 (ones n : Int)) := by
  subst hz
  refine FnSpec.intro Tryd.func137 rfl Tryd.ntmps137 rfl fun X M w => ?_
  refine JC.seq fun K1 hK1 => ?_
  refine JC.region ?_
  refine J.yl (y_assign rfl rfl) rfl rfl rfl ?_
  refine J.nil ?_
  refine JQ.next hK1 ?_
  refine JC.seq fun K2 hK2 => ?_
  refine JC.region ?_
  refine J.yl (y_move rfl rfl) rfl rfl rfl ?_
  refine J.yl (y_max rfl rfl rfl) rfl rfl rfl ?_
  refine J.yl (y_conv rfl (isS Tryd.underlying3) Tryd.underlying207 rfl (show IntKind.u64.wrap (max (n : Int) 0) = (n : Int) by rw [IntKind.wrap_u64]; omega)) rfl rfl rfl ?_
  refine J.callv rfl rfl rfl rfl Tb.cl173 rfl (occ_fn n h) ?_
  refine J.yl (y_assign rfl rfl) rfl rfl rfl ?_
  refine J.nil ?_
  refine JQ.next hK2 ?_
  refine JC.ret ?_
  exact ret1 rfl (r_tmp rfl) fun w hs => Post.pure hs
theorem rones_fn (n : Nat) (z : Int) (hz : z = n) (h : n ≤ 4096) : PureFn Tryd.prog Gl 140 [.int .i64 z] F (.int .i64 (ones n : Int)) := by
  subst hz
  refine FnSpec.intro Tryd.func140 rfl Tryd.ntmps140 rfl fun X M w => ?_
  refine JC.seq fun K1 hK1 => ?_
  refine JC.region ?_
  refine J.yl (y_assign rfl rfl) rfl rfl rfl ?_
  refine J.nil ?_
  refine JQ.next hK1 ?_
  refine JC.seq fun K2 hK2 => ?_
  refine JC.region ?_
  refine J.yl (y_assign rfl rfl) rfl rfl rfl ?_
  refine J.nil ?_
  refine JQ.next hK2 ?_
  refine JC.seq fun K3 hK3 => ?_
  refine JC.block ?_
  refine JC.loopE (σ := Nat × Nat) (M := fun q => [(0, .int .i64 (q.1 : Int)), (3, .int .i64 (q.2 : Int))]) (kp := []) (hkp := okE_nil) (Dc := fun _ => []) (H := fun _ => F) (Ψ := fun q => q.1 ≤ 4096 ∧ q.2 + q.1 ≤ 4096 ∧ q.2 + ones q.1 = ones n) (μ := fun q => q.1) (n, 0) ⟨h, by dsimp only; omega, Nat.zero_add _⟩ (okE_cons rfl (okE_cons rfl okE_nil)) (fun w h => h) (fun sK4 hK4 K4 againK4 => ?_)
  obtain ⟨a, b⟩ := sK4
  dsimp only at hK4 againK4 ⊢
  obtain ⟨ha, hab, hs⟩ := hK4
  refine JC.seq fun K5 hK5 => ?_
  refine JC.seq fun K6 hK6 => ?_
  refine JC.region ?_
  refine J.yl (y_move rfl rfl) rfl rfl rfl ?_
  refine J.yl (y_gt rfl rfl rfl) rfl rfl rfl ?_
  refine J.nil ?_
  refine JQ.next hK6 ?_
  refine JC.condp rfl (fun h1 => ?_) (fun h1 => ?_)
  · have := ones_step (show a ≠ 0 by omega)
    refine JC.skip ?_
    refine JQ.next hK5 ?_
    refine JC.block ?_
    refine JC.seq fun K7 hK7 => ?_
    refine JC.region ?_
    refine J.yl (y_move rfl rfl) rfl rfl rfl ?_
    refine J.yl (y_move rfl rfl) rfl rfl rfl ?_
    refine J.yl (y_rem64 rfl rfl rfl (by omega)) rfl rfl rfl ?_
    refine J.yl (y_add64 rfl rfl rfl (by omega)) rfl rfl rfl ?_
    refine J.yl (y_assign rfl rfl) rfl rfl rfl ?_
    refine J.nil ?_
    refine JQ.next hK7 ?_
    refine JC.region ?_
    refine J.yl (y_move rfl rfl) rfl rfl rfl ?_
    refine J.yl (y_quo64 rfl rfl rfl (by omega)) rfl rfl rfl ?_
    refine J.yl (y_assign rfl rfl) rfl rfl rfl ?_
    refine J.nil ?_
    refine JQ.block_normal ?_
    refine againK4 (a / 2, b + a % 2) _ ⟨by dsimp only; omega, by dsimp only; omega, by dsimp only; omega⟩ (by dsimp only; omega) (okE_cons (slotI (by dsimp only; omega)) (okE_cons (slotI (by dsimp only; omega)) okE_nil)) okE_nil
  · obtain rfl : a = 0 := by omega
    rw [ones_zero, Nat.add_zero] at hs
    subst hs
    refine JC.exit ?_
    refine JQ.then_exit (JQ.then_exit (JQ.block_hit (JQ.next hK3 ?_)))
    refine JC.seq fun K8 hK8 => ?_
    refine JC.region ?_
    refine J.yl (y_move rfl rfl) rfl rfl rfl ?_
    refine J.yl (y_assign rfl rfl) rfl rfl rfl ?_
    refine J.nil ?_
    refine JQ.next hK8 ?_
    refine JC.ret ?_
    exact ret1 rfl (r_tmp rfl) fun w hs => Post.pure hs
/-- Whether a range may be. -/
def vld (s : Int) (l : List H) : Bool := decide (0 ≤ s ∧ s ≤ 4096 ∧ l.length = ones s.toNat)
theorem valid_fn (s : Int) (l : List H) (A : Option Addr) (n k : Nat) (hn : l.length = n) : PureFn Tryd.prog Gl 67 [.agg #[.int .i64 s, .slice A n k]] F (.bool (vld s l)) := by
  refine FnSpec.intro Tryd.func67 rfl Tryd.ntmps67 rfl fun X M w => ?_
  refine JC.seq fun K1 hK1 => ?_
  refine JC.region ?_
  refine J.box rfl rfl rfl rfl rfl rfl fun g1 => ?_
  refine J.yl (y_assign rfl rfl) rfl rfl rfl ?_
  refine J.nil ?_
  refine JQ.next hK1 ?_
  refine JC.seq fun K2 hK2 => ?_
  refine JC.drawM [true] (by kernel_rfl) ?_
  refine D.take 0 (y_fb rfl Tb.fo87_0 rfl) rfl rfl rfl rfl (by kernel_rfl) (by kernel_rfl) (by kernel_rfl) (PQ.next PQ.body) ?_
  refine D.take 1 (y_lb 0 rfl Tb.ag3 rfl rfl rfl) rfl rfl rfl rfl (by kernel_rfl) (by kernel_rfl) (by kernel_rfl) (PQ.next PQ.body) ?_
  refine D.takep 2 (y_ge rfl rfl rfl) rfl rfl rfl rfl (by kernel_rfl) (by kernel_rfl) (by kernel_rfl) (PQ.next PQ.body) (fun h1 => ?_) (fun h1 => ?_)
  · refine D.take 3 (y_move rfl rfl) rfl rfl rfl rfl (by kernel_rfl) (by kernel_rfl) (by kernel_rfl) (PQ.next PQ.body) ?_
    refine D.takeG 4 (y_fb rfl Tb.fo87_0 rfl) rfl rfl rfl rfl rfl rfl rfl (by kernel_rfl) (by kernel_rfl) (by kernel_rfl) (PQ.next PQ.body) ?_
    refine D.takeG 5 (y_lb 0 rfl Tb.ag3 rfl rfl rfl) rfl rfl rfl rfl rfl rfl rfl (by kernel_rfl) (by kernel_rfl) (by kernel_rfl) (PQ.next PQ.body) ?_
    refine D.takepG 6 (y_le rfl rfl rfl) rfl rfl rfl rfl rfl rfl rfl (by kernel_rfl) (by kernel_rfl) (by kernel_rfl) (PQ.next PQ.body) (fun h2 => ?_) (fun h2 => ?_)
    · obtain ⟨m, rfl⟩ : ∃ m : Nat, s = m := ⟨s.toNat, by omega⟩
      have hv' : decide ((n : Int) = (ones m : Int)) = vld m l := by
        unfold vld
        rw [decide_eq_decide, Int.toNat_natCast, hn]
        constructor
        · intro h; exact ⟨by omega, by omega, by omega⟩
        · intro h; omega
      refine D.take 7 (y_pick rfl rfl (fun _ => rfl) (fun h => by cases h)) rfl rfl rfl rfl (by kernel_rfl) (by kernel_rfl) (by kernel_rfl) (PQ.next PQ.body) ?_
      refine D.take 8 (y_move rfl rfl) rfl rfl rfl rfl (by kernel_rfl) (by kernel_rfl) (by kernel_rfl) (PQ.next PQ.body) ?_
      refine D.takeG 9 (y_fb rfl Tb.fo87_1 rfl) rfl rfl rfl rfl rfl rfl rfl (by kernel_rfl) (by kernel_rfl) (by kernel_rfl) (PQ.next PQ.body) ?_
      refine D.takeG 10 (y_lb 0 rfl Tb.ag22 rfl rfl rfl) rfl rfl rfl rfl rfl rfl rfl (by kernel_rfl) (by kernel_rfl) (by kernel_rfl) (PQ.next PQ.body) ?_
      refine D.takeG 11 (y_len rfl Tryd.underlying22 rfl) rfl rfl rfl rfl rfl rfl rfl (by kernel_rfl) (by kernel_rfl) (by kernel_rfl) (PQ.next PQ.body) ?_
      refine D.takeG 12 (y_fb rfl Tb.fo87_0 rfl) rfl rfl rfl rfl rfl rfl rfl (by kernel_rfl) (by kernel_rfl) (by kernel_rfl) (PQ.next PQ.body) ?_
      refine D.takeG 13 (y_lb 0 rfl Tb.ag3 rfl rfl rfl) rfl rfl rfl rfl rfl rfl rfl (by kernel_rfl) (by kernel_rfl) (by kernel_rfl) (PQ.next PQ.body) ?_
      refine D.ofJ 14 (by kernel_rfl) rfl fun KhK4 hK4 => ?_
      refine J.gon rfl rfl rfl rfl ?_
      refine J.callv rfl rfl rfl rfl Tb.cl137 rfl (ones_fn m m rfl (by omega)) ?_
      refine J.nil ?_
      refine hK4 _ _ _ (fun w hs => hs.mask [true]) ?_
      refine D.takeG 15 (y_eq rfl rfl rfl) rfl rfl rfl rfl rfl rfl rfl (by kernel_rfl) (by kernel_rfl) (by kernel_rfl) (PQ.next PQ.body) ?_
      refine D.take 16 (y_pick rfl rfl (fun _ => rfl) (fun h => by cases h)) rfl rfl rfl rfl (by kernel_rfl) (by kernel_rfl) (by kernel_rfl) (PQ.next PQ.body) ?_
      refine D.take 17 (y_assign rfl rfl) rfl rfl rfl rfl (by kernel_rfl) (by kernel_rfl) (by kernel_rfl) (PQ.next PQ.body) ?_
      refine D.done (by kernel_rfl) ?_
      refine JQ.next hK2 ?_
      refine JC.ret ?_
      exact ret1 rfl (r_tmp rfl) fun w hs => by rw [← hv']; exact Post.pure hs
    · have hv' : vld s l = false := decide_eq_false (fun h => h2 h.2.1)
      refine D.take 7 (y_pick rfl rfl (fun _ => rfl) (fun h => by cases h)) rfl rfl rfl rfl (by kernel_rfl) (by kernel_rfl) (by kernel_rfl) (PQ.next PQ.body) ?_
      refine D.take 8 (y_move rfl rfl) rfl rfl rfl rfl (by kernel_rfl) (by kernel_rfl) (by kernel_rfl) (PQ.next PQ.body) ?_
      refine D.skipG (b := false) 9 rfl rfl rfl rfl rfl rfl rfl (by kernel_rfl) (by kernel_rfl) (by kernel_rfl) (PQ.next PQ.body) ?_
      refine D.skipG (b := false) 10 rfl rfl rfl rfl rfl rfl rfl (by kernel_rfl) (by kernel_rfl) (by kernel_rfl) (PQ.next PQ.body) ?_
      refine D.skipG (b := false) 11 rfl rfl rfl rfl rfl rfl rfl (by kernel_rfl) (by kernel_rfl) (by kernel_rfl) (PQ.next PQ.body) ?_
      refine D.skipG (b := false) 12 rfl rfl rfl rfl rfl rfl rfl (by kernel_rfl) (by kernel_rfl) (by kernel_rfl) (PQ.next PQ.body) ?_
      refine D.skipG (b := false) 13 rfl rfl rfl rfl rfl rfl rfl (by kernel_rfl) (by kernel_rfl) (by kernel_rfl) (PQ.next PQ.body) ?_
      refine D.skipG (b := false) 14 rfl rfl rfl rfl rfl rfl rfl (by kernel_rfl) (by kernel_rfl) (by kernel_rfl) (PQ.next PQ.body) ?_
      refine D.skipG (b := false) 15 rfl rfl rfl rfl rfl rfl rfl (by kernel_rfl) (by kernel_rfl) (by kernel_rfl) (PQ.next PQ.body) ?_
      refine D.take 16 (y_pick rfl rfl (fun h => by cases h) (fun _ => rfl)) rfl rfl rfl rfl (by kernel_rfl) (by kernel_rfl) (by kernel_rfl) (PQ.next PQ.body) ?_
      refine D.take 17 (y_assign rfl rfl) rfl rfl rfl rfl (by kernel_rfl) (by kernel_rfl) (by kernel_rfl) (PQ.next PQ.body) ?_
      refine D.done (by kernel_rfl) ?_
      refine JQ.next hK2 ?_
      refine JC.ret ?_
      exact ret1 rfl (r_tmp rfl) fun w hs => by rw [hv']; exact Post.pure hs
  · have hv' : vld s l = false := decide_eq_false (fun h => h1 h.1)
    refine D.take 3 (y_move rfl rfl) rfl rfl rfl rfl (by kernel_rfl) (by kernel_rfl) (by kernel_rfl) (PQ.next PQ.body) ?_
    refine D.skipG (b := false) 4 rfl rfl rfl rfl rfl rfl rfl (by kernel_rfl) (by kernel_rfl) (by kernel_rfl) (PQ.next PQ.body) ?_
    refine D.skipG (b := false) 5 rfl rfl rfl rfl rfl rfl rfl (by kernel_rfl) (by kernel_rfl) (by kernel_rfl) (PQ.next PQ.body) ?_
    refine D.skipG (b := false) 6 rfl rfl rfl rfl rfl rfl rfl (by kernel_rfl) (by kernel_rfl) (by kernel_rfl) (PQ.next PQ.body) ?_
    refine D.take 7 (y_pick rfl rfl (fun h => by cases h) (fun _ => rfl)) rfl rfl rfl rfl (by kernel_rfl) (by kernel_rfl) (by kernel_rfl) (PQ.next PQ.body) ?_
    refine D.take 8 (y_move rfl rfl) rfl rfl rfl rfl (by kernel_rfl) (by kernel_rfl) (by kernel_rfl) (PQ.next PQ.body) ?_
    refine D.skipG (b := false) 9 rfl rfl rfl rfl rfl rfl rfl (by kernel_rfl) (by kernel_rfl) (by kernel_rfl) (PQ.next PQ.body) ?_
    refine D.skipG (b := false) 10 rfl rfl rfl rfl rfl rfl rfl (by kernel_rfl) (by kernel_rfl) (by kernel_rfl) (PQ.next PQ.body) ?_
    refine D.skipG (b := false) 11 rfl rfl rfl rfl rfl rfl rfl (by kernel_rfl) (by kernel_rfl) (by kernel_rfl) (PQ.next PQ.body) ?_
    refine D.skipG (b := false) 12 rfl rfl rfl rfl rfl rfl rfl (by kernel_rfl) (by kernel_rfl) (by kernel_rfl) (PQ.next PQ.body) ?_
    refine D.skipG (b := false) 13 rfl rfl rfl rfl rfl rfl rfl (by kernel_rfl) (by kernel_rfl) (by kernel_rfl) (PQ.next PQ.body) ?_
    refine D.skipG (b := false) 14 rfl rfl rfl rfl rfl rfl rfl (by kernel_rfl) (by kernel_rfl) (by kernel_rfl) (PQ.next PQ.body) ?_
    refine D.skipG (b := false) 15 rfl rfl rfl rfl rfl rfl rfl (by kernel_rfl) (by kernel_rfl) (by kernel_rfl) (PQ.next PQ.body) ?_
    refine D.take 16 (y_pick rfl rfl (fun h => by cases h) (fun _ => rfl)) rfl rfl rfl rfl (by kernel_rfl) (by kernel_rfl) (by kernel_rfl) (PQ.next PQ.body) ?_
    refine D.take 17 (y_assign rfl rfl) rfl rfl rfl rfl (by kernel_rfl) (by kernel_rfl) (by kernel_rfl) (PQ.next PQ.body) ?_
    refine D.done (by kernel_rfl) ?_
    refine JQ.next hK2 ?_
    refine JC.ret ?_
    exact ret1 rfl (r_tmp rfl) fun w hs => by rw [hv']; exact Post.pure hs
theorem rvalid_fn (s : Int) (l : List H) (A : Option Addr) (n k : Nat) (hn : l.length = n) : PureFn Tryd.prog Gl 70 [.agg #[.int .i64 s, .slice A n k]] F (.bool (vld s l)) := by
  refine FnSpec.intro Tryd.func70 rfl Tryd.ntmps70 rfl fun X M w => ?_
  refine JC.seq fun K1 hK1 => ?_
  refine JC.region ?_
  refine J.box rfl rfl rfl rfl rfl rfl fun g1 => ?_
  refine J.yl (y_assign rfl rfl) rfl rfl rfl ?_
  refine J.nil ?_
  refine JQ.next hK1 ?_
  refine JC.seq fun K2 hK2 => ?_
  refine JC.drawM [true] (by kernel_rfl) ?_
  refine D.take 0 (y_fb rfl Tb.fo87_0 rfl) rfl rfl rfl rfl (by kernel_rfl) (by kernel_rfl) (by kernel_rfl) (PQ.next PQ.body) ?_
  refine D.take 1 (y_lb 0 rfl Tb.ag3 rfl rfl rfl) rfl rfl rfl rfl (by kernel_rfl) (by kernel_rfl) (by kernel_rfl) (PQ.next PQ.body) ?_
  refine D.takep 2 (y_ge rfl rfl rfl) rfl rfl rfl rfl (by kernel_rfl) (by kernel_rfl) (by kernel_rfl) (PQ.next PQ.body) (fun h1 => ?_) (fun h1 => ?_)
  · refine D.take 3 (y_move rfl rfl) rfl rfl rfl rfl (by kernel_rfl) (by kernel_rfl) (by kernel_rfl) (PQ.next PQ.body) ?_
    refine D.takeG 4 (y_fb rfl Tb.fo87_0 rfl) rfl rfl rfl rfl rfl rfl rfl (by kernel_rfl) (by kernel_rfl) (by kernel_rfl) (PQ.next PQ.body) ?_
    refine D.takeG 5 (y_lb 0 rfl Tb.ag3 rfl rfl rfl) rfl rfl rfl rfl rfl rfl rfl (by kernel_rfl) (by kernel_rfl) (by kernel_rfl) (PQ.next PQ.body) ?_
    refine D.takepG 6 (y_le rfl rfl rfl) rfl rfl rfl rfl rfl rfl rfl (by kernel_rfl) (by kernel_rfl) (by kernel_rfl) (PQ.next PQ.body) (fun h2 => ?_) (fun h2 => ?_)
    · obtain ⟨m, rfl⟩ : ∃ m : Nat, s = m := ⟨s.toNat, by omega⟩
      have hv' : decide ((n : Int) = (ones m : Int)) = vld m l := by
        unfold vld
        rw [decide_eq_decide, Int.toNat_natCast, hn]
        constructor
        · intro h; exact ⟨by omega, by omega, by omega⟩
        · intro h; omega
      refine D.take 7 (y_pick rfl rfl (fun _ => rfl) (fun h => by cases h)) rfl rfl rfl rfl (by kernel_rfl) (by kernel_rfl) (by kernel_rfl) (PQ.next PQ.body) ?_
      refine D.take 8 (y_move rfl rfl) rfl rfl rfl rfl (by kernel_rfl) (by kernel_rfl) (by kernel_rfl) (PQ.next PQ.body) ?_
      refine D.takeG 9 (y_fb rfl Tb.fo87_1 rfl) rfl rfl rfl rfl rfl rfl rfl (by kernel_rfl) (by kernel_rfl) (by kernel_rfl) (PQ.next PQ.body) ?_
      refine D.takeG 10 (y_lb 0 rfl Tb.ag22 rfl rfl rfl) rfl rfl rfl rfl rfl rfl rfl (by kernel_rfl) (by kernel_rfl) (by kernel_rfl) (PQ.next PQ.body) ?_
      refine D.takeG 11 (y_len rfl Tryd.underlying22 rfl) rfl rfl rfl rfl rfl rfl rfl (by kernel_rfl) (by kernel_rfl) (by kernel_rfl) (PQ.next PQ.body) ?_
      refine D.takeG 12 (y_fb rfl Tb.fo87_0 rfl) rfl rfl rfl rfl rfl rfl rfl (by kernel_rfl) (by kernel_rfl) (by kernel_rfl) (PQ.next PQ.body) ?_
      refine D.takeG 13 (y_lb 0 rfl Tb.ag3 rfl rfl rfl) rfl rfl rfl rfl rfl rfl rfl (by kernel_rfl) (by kernel_rfl) (by kernel_rfl) (PQ.next PQ.body) ?_
      refine D.ofJ 14 (by kernel_rfl) rfl fun KhK4 hK4 => ?_
      refine J.gon rfl rfl rfl rfl ?_
      refine J.callv rfl rfl rfl rfl Tb.cl140 rfl (rones_fn m m rfl (by omega)) ?_
      refine J.nil ?_
      refine hK4 _ _ _ (fun w hs => hs.mask [true]) ?_
      refine D.takeG 15 (y_eq rfl rfl rfl) rfl rfl rfl rfl rfl rfl rfl (by kernel_rfl) (by kernel_rfl) (by kernel_rfl) (PQ.next PQ.body) ?_
      refine D.take 16 (y_pick rfl rfl (fun _ => rfl) (fun h => by cases h)) rfl rfl rfl rfl (by kernel_rfl) (by kernel_rfl) (by kernel_rfl) (PQ.next PQ.body) ?_
      refine D.take 17 (y_assign rfl rfl) rfl rfl rfl rfl (by kernel_rfl) (by kernel_rfl) (by kernel_rfl) (PQ.next PQ.body) ?_
      refine D.done (by kernel_rfl) ?_
      refine JQ.next hK2 ?_
      refine JC.ret ?_
      exact ret1 rfl (r_tmp rfl) fun w hs => by rw [← hv']; exact Post.pure hs
    · have hv' : vld s l = false := decide_eq_false (fun h => h2 h.2.1)
      refine D.take 7 (y_pick rfl rfl (fun _ => rfl) (fun h => by cases h)) rfl rfl rfl rfl (by kernel_rfl) (by kernel_rfl) (by kernel_rfl) (PQ.next PQ.body) ?_
      refine D.take 8 (y_move rfl rfl) rfl rfl rfl rfl (by kernel_rfl) (by kernel_rfl) (by kernel_rfl) (PQ.next PQ.body) ?_
      refine D.skipG (b := false) 9 rfl rfl rfl rfl rfl rfl rfl (by kernel_rfl) (by kernel_rfl) (by kernel_rfl) (PQ.next PQ.body) ?_
      refine D.skipG (b := false) 10 rfl rfl rfl rfl rfl rfl rfl (by kernel_rfl) (by kernel_rfl) (by kernel_rfl) (PQ.next PQ.body) ?_
      refine D.skipG (b := false) 11 rfl rfl rfl rfl rfl rfl rfl (by kernel_rfl) (by kernel_rfl) (by kernel_rfl) (PQ.next PQ.body) ?_
      refine D.skipG (b := false) 12 rfl rfl rfl rfl rfl rfl rfl (by kernel_rfl) (by kernel_rfl) (by kernel_rfl) (PQ.next PQ.body) ?_
      refine D.skipG (b := false) 13 rfl rfl rfl rfl rfl rfl rfl (by kernel_rfl) (by kernel_rfl) (by kernel_rfl) (PQ.next PQ.body) ?_
      refine D.skipG (b := false) 14 rfl rfl rfl rfl rfl rfl rfl (by kernel_rfl) (by kernel_rfl) (by kernel_rfl) (PQ.next PQ.body) ?_
      refine D.skipG (b := false) 15 rfl rfl rfl rfl rfl rfl rfl (by kernel_rfl) (by kernel_rfl) (by kernel_rfl) (PQ.next PQ.body) ?_
      refine D.take 16 (y_pick rfl rfl (fun h => by cases h) (fun _ => rfl)) rfl rfl rfl rfl (by kernel_rfl) (by kernel_rfl) (by kernel_rfl) (PQ.next PQ.body) ?_
      refine D.take 17 (y_assign rfl rfl) rfl rfl rfl rfl (by kernel_rfl) (by kernel_rfl) (by kernel_rfl) (PQ.next PQ.body) ?_
      refine D.done (by kernel_rfl) ?_
      refine JQ.next hK2 ?_
      refine JC.ret ?_
      exact ret1 rfl (r_tmp rfl) fun w hs => by rw [hv']; exact Post.pure hs
  · have hv' : vld s l = false := decide_eq_false (fun h => h1 h.1)
    refine D.take 3 (y_move rfl rfl) rfl rfl rfl rfl (by kernel_rfl) (by kernel_rfl) (by kernel_rfl) (PQ.next PQ.body) ?_
    refine D.skipG (b := false) 4 rfl rfl rfl rfl rfl rfl rfl (by kernel_rfl) (by kernel_rfl) (by kernel_rfl) (PQ.next PQ.body) ?_
    refine D.skipG (b := false) 5 rfl rfl rfl rfl rfl rfl rfl (by kernel_rfl) (by kernel_rfl) (by kernel_rfl) (PQ.next PQ.body) ?_
    refine D.skipG (b := false) 6 rfl rfl rfl rfl rfl rfl rfl (by kernel_rfl) (by kernel_rfl) (by kernel_rfl) (PQ.next PQ.body) ?_
    refine D.take 7 (y_pick rfl rfl (fun h => by cases h) (fun _ => rfl)) rfl rfl rfl rfl (by kernel_rfl) (by kernel_rfl) (by kernel_rfl) (PQ.next PQ.body) ?_
    refine D.take 8 (y_move rfl rfl) rfl rfl rfl rfl (by kernel_rfl) (by kernel_rfl) (by kernel_rfl) (PQ.next PQ.body) ?_
    refine D.skipG (b := false) 9 rfl rfl rfl rfl rfl rfl rfl (by kernel_rfl) (by kernel_rfl) (by kernel_rfl) (PQ.next PQ.body) ?_
    refine D.skipG (b := false) 10 rfl rfl rfl rfl rfl rfl rfl (by kernel_rfl) (by kernel_rfl) (by kernel_rfl) (PQ.next PQ.body) ?_
    refine D.skipG (b := false) 11 rfl rfl rfl rfl rfl rfl rfl (by kernel_rfl) (by kernel_rfl) (by kernel_rfl) (PQ.next PQ.body) ?_
    refine D.skipG (b := false) 12 rfl rfl rfl rfl rfl rfl rfl (by kernel_rfl) (by kernel_rfl) (by kernel_rfl) (PQ.next PQ.body) ?_
    refine D.skipG (b := false) 13 rfl rfl rfl rfl rfl rfl rfl (by kernel_rfl) (by kernel_rfl) (by kernel_rfl) (PQ.next PQ.body) ?_
    refine D.skipG (b := false) 14 rfl rfl rfl rfl rfl rfl rfl (by kernel_rfl) (by kernel_rfl) (by kernel_rfl) (PQ.next PQ.body) ?_
    refine D.skipG (b := false) 15 rfl rfl rfl rfl rfl rfl rfl (by kernel_rfl) (by kernel_rfl) (by kernel_rfl) (PQ.next PQ.body) ?_
    refine D.take 16 (y_pick rfl rfl (fun h => by cases h) (fun _ => rfl)) rfl rfl rfl rfl (by kernel_rfl) (by kernel_rfl) (by kernel_rfl) (PQ.next PQ.body) ?_
    refine D.take 17 (y_assign rfl rfl) rfl rfl rfl rfl (by kernel_rfl) (by kernel_rfl) (by kernel_rfl) (PQ.next PQ.body) ?_
    refine D.done (by kernel_rfl) ?_
    refine JQ.next hK2 ?_
    refine JC.ret ?_
    exact ret1 rfl (r_tmp rfl) fun w hs => by rw [hv']; exact Post.pure hs
theorem equal_fn (a b : List H) (A B : Option Addr) (n m k j : Nat) (hn : a.length = n) (hm : b.length = m) (hM : n ≤ 1000000) (hA : ∀ w, F w → Sl w A (hcs a)) (hB : ∀ w, F w → Sl w B (hcs b)) : PureFn Tryd.prog Gl 131 [.slice A n k, .slice B m j] F (.bool (decide (a = b))) := by
  refine FnSpec.intro Tryd.func131 rfl Tryd.ntmps131 rfl fun X M w => ?_
  refine JC.seq fun K1 hK1 => ?_
  refine JC.region ?_
  refine J.yl (y_assign rfl rfl) rfl rfl rfl ?_
  refine J.nil ?_
  refine JQ.next hK1 ?_
  refine JC.seq fun K2 hK2 => ?_
  refine JC.seq fun K3 hK3 => ?_
  refine JC.region ?_
  refine J.yl (y_move rfl rfl) rfl rfl rfl ?_
  refine J.yl (y_len rfl Tryd.underlying22 rfl) rfl rfl rfl ?_
  refine J.yl (y_move rfl rfl) rfl rfl rfl ?_
  refine J.yl (y_len rfl Tryd.underlying22 rfl) rfl rfl rfl ?_
  refine J.yl (y_ne rfl rfl rfl) rfl rfl rfl ?_
  refine J.nil ?_
  refine JQ.next hK3 ?_
  refine JC.condn rfl (fun h1 => ?_) (fun h1 => ?_)
  · have hne : decide (a = b) = false := decide_eq_false (fun e => by subst e; omega)
    refine JC.seq fun K4 hK4 => ?_
    refine JC.region ?_
    refine J.yl (y_assign rfl rfl) rfl rfl rfl ?_
    refine J.nil ?_
    refine JQ.next hK4 ?_
    refine JC.ret ?_
    refine JQ.then_ret ?_
    exact ret1 rfl (r_tmp rfl) fun w hs => by rw [hne]; exact Post.pure hs
  · obtain rfl : n = m := by omega
    refine JC.skip ?_
    refine JQ.next hK2 ?_
    refine JC.seq fun K5 hK5 => ?_
    refine JC.seq fun K6 hK6 => ?_
    refine JC.region ?_
    refine J.yl (y_move rfl rfl) rfl rfl rfl ?_
    refine J.yl (y_len rfl Tryd.underlying22 rfl) rfl rfl rfl ?_
    refine J.yl (y_move rfl rfl) rfl rfl rfl ?_
    refine J.nil ?_
    refine JQ.next hK6 ?_
    refine JC.block ?_
    refine JC.loopE (σ := Nat) (M := fun q => [(13, .int .i64 (q : Int))]) (kp := [(0, _), (1, _), (12, _)]) (hkp := (okE_cons rfl (okE_cons rfl (okE_cons rfl okE_nil)))) (Dc := fun _ => []) (H := fun _ => F) (Ψ := fun q => q ≤ n ∧ a.take q = b.take q) (μ := fun q => n - q) 0 ⟨Nat.zero_le _, rfl⟩ (okE_cons rfl okE_nil) (fun w h => h) (fun i ⟨hi, he⟩ K7 againK7 => ?_)
    refine JC.seq fun K8 hK8 => ?_
    refine JC.region ?_
    refine J.yl (y_lt rfl rfl rfl) rfl rfl rfl ?_
    refine J.nil ?_
    refine JQ.next hK8 ?_
    refine JC.seq fun K9 hK9 => ?_
    refine JC.condp rfl (fun h2 => ?_) (fun h2 => ?_)
    · obtain ⟨x, hx⟩ : ∃ x, a[i]? = some x := ⟨_, List.getElem?_eq_getElem (show i < a.length by omega)⟩
      obtain ⟨y, hy⟩ : ∃ x, b[i]? = some x := ⟨_, List.getElem?_eq_getElem (show i < b.length by omega)⟩
      refine JC.skip ?_
      refine JQ.next hK9 ?_
      refine JC.seq fun K10 hK10 => ?_
      refine JC.block ?_
      refine JC.seq fun K11 hK11 => ?_
      refine JC.region ?_
      refine J.yl (y_move rfl rfl) rfl rfl rfl ?_
      refine J.yl (y_assign rfl rfl) rfl rfl rfl ?_
      refine J.nil ?_
      refine JQ.next hK11 ?_
      refine JC.seq fun K12 hK12 => ?_
      refine JC.draw (by kernel_rfl) ?_
      refine D.take 0 (y_move rfl rfl) rfl rfl rfl rfl (by kernel_rfl) (by kernel_rfl) (by kernel_rfl) (PQ.next (PQ.block (PQ.next (PQ.next (PQ.block (PQ.next PQ.body)))))) ?_
      refine D.take 1 (y_move rfl rfl) rfl rfl rfl rfl (by kernel_rfl) (by kernel_rfl) (by kernel_rfl) (PQ.next (PQ.block (PQ.next (PQ.next (PQ.block (PQ.next PQ.body)))))) ?_
      refine D.take 4 (y_move rfl rfl) rfl rfl rfl rfl (by kernel_rfl) (by kernel_rfl) (by kernel_rfl) (PQ.next (PQ.block (PQ.next (PQ.next (PQ.block (PQ.next PQ.body)))))) ?_
      refine D.take 5 (y_move rfl rfl) rfl rfl rfl rfl (by kernel_rfl) (by kernel_rfl) (by kernel_rfl) (PQ.next (PQ.block (PQ.next (PQ.next (PQ.block (PQ.next PQ.body)))))) ?_
      refine D.take 2 (y_hidx i rfl Tryd.underlying22 Tb.sz30 rfl rfl rfl hn (by omega) (fun w hs => hA w hs.fact)) rfl rfl rfl rfl (by kernel_rfl) (by kernel_rfl) (by kernel_rfl) (PQ.next (PQ.block (PQ.next (PQ.next (PQ.block (PQ.next PQ.body)))))) ?_
      refine D.take 3 (y_hld x rfl Tb.ag30 Tb.sz30 rfl hx (fun w hs => hA w hs.fact)) rfl rfl rfl rfl (by kernel_rfl) (by kernel_rfl) (by kernel_rfl) (PQ.next (PQ.block (PQ.next (PQ.next (PQ.block (PQ.next PQ.body)))))) ?_
      refine D.take 6 (y_hidx i rfl Tryd.underlying22 Tb.sz30 rfl rfl rfl hm (by omega) (fun w hs => hB w hs.fact)) rfl rfl rfl rfl (by kernel_rfl) (by kernel_rfl) (by kernel_rfl) (PQ.next (PQ.block (PQ.next (PQ.next (PQ.block (PQ.next PQ.body)))))) ?_
      refine D.take 7 (y_hld y rfl Tb.ag30 Tb.sz30 rfl hy (fun w hs => hB w hs.fact)) rfl rfl rfl rfl (by kernel_rfl) (by kernel_rfl) (by kernel_rfl) (PQ.next (PQ.block (PQ.next (PQ.next (PQ.block (PQ.next PQ.body)))))) ?_
      refine D.take 8 (y_hne rfl Tryd.underlying30 Tryd.underlying5 Tb.ag5 Tb.sz5 Tb.eg30 rfl rfl) rfl rfl rfl rfl (by kernel_rfl) (by kernel_rfl) (by kernel_rfl) (PQ.next (PQ.block (PQ.next (PQ.next (PQ.block (PQ.next PQ.body)))))) ?_
      refine D.done (by kernel_rfl) ?_
      refine JQ.next hK12 ?_
      refine JC.condn rfl (fun h3 => ?_) (fun h3 => ?_)
      · have hne : decide (a = b) = false := decide_eq_false (fun e => by
          subst e
          rw [hx] at hy
          exact h3 (Option.some.inj hy))
        refine JC.seq fun K13 hK13 => ?_
        refine JC.region ?_
        refine J.yl (y_assign rfl rfl) rfl rfl rfl ?_
        refine J.nil ?_
        refine JQ.next hK13 ?_
        refine JC.ret ?_
        refine JQ.block_ret (JQ.then_ret (JQ.then_ret (JQ.block_ret (JQ.then_ret ?_))))
        exact ret1 rfl (r_tmp rfl) fun w hs => by rw [hne]; exact Post.pure hs
      · obtain rfl : x = y := h3
        refine JC.skip ?_
        refine JQ.block_normal (JQ.next hK10 ?_)
        refine JC.region ?_
        refine J.yl (y_add64 rfl rfl rfl (by omega)) rfl rfl rfl ?_
        refine J.yl (y_move rfl rfl) rfl rfl rfl ?_
        refine J.nil ?_
        refine againK7 (i + 1) _ ⟨by omega, by rw [List.take_add_one, List.take_add_one, he, hx, hy]⟩ (by omega) (okE_cons (slotI (by omega)) okE_nil) (okE_cons rfl (okE_cons rfl (okE_cons rfl okE_nil)))
    · have heq : decide (a = b) = true := decide_eq_true (by
        rw [List.take_of_length_le (by omega), List.take_of_length_le (by omega)] at he
        exact he)
      refine JC.exit ?_
      refine JQ.then_exit (JQ.then_exit (JQ.block_hit (JQ.next hK5 ?_)))
      refine JC.seq fun K14 hK14 => ?_
      refine JC.region ?_
      refine J.yl (y_assign rfl rfl) rfl rfl rfl ?_
      refine J.nil ?_
      refine JQ.next hK14 ?_
      refine JC.ret ?_
      exact ret1 rfl (r_tmp rfl) fun w hs => by rw [heq]; exact Post.pure hs
/-- Whether two ranges are the same. -/
def sam (s t : Int) (a b : List H) : Bool := decide (s = t ∧ a = b)
theorem rgsame_fn (s t : Int) (a b : List H) (A B : Option Addr) (n m k j : Nat) (hn : a.length = n) (hm : b.length = m) (hM : n ≤ 1000000) (hA : ∀ w, F w → Sl w A (hcs a)) (hB : ∀ w, F w → Sl w B (hcs b)) : PureFn Tryd.prog Gl 63 [.agg #[.int .i64 s, .slice A n k], .agg #[.int .i64 t, .slice B m j]] F (.bool (sam s t a b)) := by
  refine FnSpec.intro Tryd.func63 rfl Tryd.ntmps63 rfl fun X M w => ?_
  refine JC.seq fun K1 hK1 => ?_
  refine JC.region ?_
  refine J.box rfl rfl rfl rfl rfl rfl fun g2 => ?_
  refine J.box rfl rfl rfl rfl rfl rfl fun g3 => ?_
  refine J.yl (y_assign rfl rfl) rfl rfl rfl ?_
  refine J.nil ?_
  refine JQ.next hK1 ?_
  refine JC.seq fun K2 hK2 => ?_
  refine JC.region ?_
  refine J.yl (y_fb rfl Tb.fo87_0 rfl) rfl rfl rfl ?_
  refine J.yl (y_lb 1 rfl Tb.ag3 rfl rfl rfl) rfl rfl rfl ?_
  refine J.yl (y_fb rfl Tb.fo87_0 rfl) rfl rfl rfl ?_
  refine J.yl (y_lb 0 rfl Tb.ag3 rfl rfl rfl) rfl rfl rfl ?_
  refine J.ylp (y_eq rfl rfl rfl) rfl rfl rfl (fun h1 => ?_) (fun h1 => ?_)
  · have hv' : decide (a = b) = sam s t a b := by unfold sam; rw [decide_eq_decide]; exact ⟨fun h => ⟨h1, h⟩, fun h => h.2⟩
    refine J.yl (y_move rfl rfl) rfl rfl rfl ?_
    refine J.gyes (y_fb rfl Tb.fo87_1 rfl) rfl rfl rfl rfl rfl rfl ?_
    refine J.gyes (y_lb 1 rfl Tb.ag22 rfl rfl rfl) rfl rfl rfl rfl rfl rfl ?_
    refine J.gyes (y_fb rfl Tb.fo87_1 rfl) rfl rfl rfl rfl rfl rfl ?_
    refine J.gyes (y_lb 0 rfl Tb.ag22 rfl rfl rfl) rfl rfl rfl rfl rfl rfl ?_
    refine J.gon rfl rfl rfl rfl ?_
    refine J.callv rfl rfl rfl rfl Tb.cl131 rfl (equal_fn a b A B n m k j hn hm hM (fun w h => hA w h.1) (fun w h => hB w h.1)) ?_
    refine J.yl (y_pick rfl rfl (fun _ => rfl) (fun h => by cases h)) rfl rfl rfl ?_
    refine J.yl (y_assign rfl rfl) rfl rfl rfl ?_
    refine J.nil ?_
    refine JQ.next hK2 ?_
    refine JC.ret ?_
    exact ret1 rfl (r_tmp rfl) fun w hs => by rw [← hv']; exact Post.pure hs
  · have hv' : sam s t a b = false := decide_eq_false (fun h => h1 h.1)
    refine J.yl (y_move rfl rfl) rfl rfl rfl ?_
    refine J.gno (b := false) rfl rfl rfl rfl rfl rfl ?_
    refine J.gno (b := false) rfl rfl rfl rfl rfl rfl ?_
    refine J.gno (b := false) rfl rfl rfl rfl rfl rfl ?_
    refine J.gno (b := false) rfl rfl rfl rfl rfl rfl ?_
    refine J.gno (b := false) rfl rfl rfl rfl rfl rfl ?_
    refine J.yl (y_pick rfl rfl (fun h => by cases h) (fun _ => rfl)) rfl rfl rfl ?_
    refine J.yl (y_assign rfl rfl) rfl rfl rfl ?_
    refine J.nil ?_
    refine JQ.next hK2 ?_
    refine JC.ret ?_
    exact ret1 rfl (r_tmp rfl) fun w hs => by rw [hv']; exact Post.pure hs
theorem rrsame_fn (s t : Int) (a b : List H) (A B : Option Addr) (n m k j : Nat) (hn : a.length = n) (hm : b.length = m) (hM : n ≤ 1000000) (hA : ∀ w, F w → Sl w A (hcs a)) (hB : ∀ w, F w → Sl w B (hcs b)) : PureFn Tryd.prog Gl 62 [.agg #[.int .i64 s, .slice A n k], .agg #[.int .i64 t, .slice B m j]] F (.bool (sam s t a b)) := by
  refine FnSpec.intro Tryd.func62 rfl Tryd.ntmps62 rfl fun X M w => ?_
  refine JC.seq fun K1 hK1 => ?_
  refine JC.region ?_
  refine J.box rfl rfl rfl rfl rfl rfl fun g2 => ?_
  refine J.box rfl rfl rfl rfl rfl rfl fun g3 => ?_
  refine J.yl (y_assign rfl rfl) rfl rfl rfl ?_
  refine J.nil ?_
  refine JQ.next hK1 ?_
  refine JC.seq fun K2 hK2 => ?_
  refine JC.seq fun K3 hK3 => ?_
  refine JC.region ?_
  refine J.yl (y_fb rfl Tb.fo87_0 rfl) rfl rfl rfl ?_
  refine J.yl (y_lb 1 rfl Tb.ag3 rfl rfl rfl) rfl rfl rfl ?_
  refine J.yl (y_fb rfl Tb.fo87_0 rfl) rfl rfl rfl ?_
  refine J.yl (y_lb 0 rfl Tb.ag3 rfl rfl rfl) rfl rfl rfl ?_
  refine J.yln (y_ne rfl rfl rfl) rfl rfl rfl (fun h1 => ?_) (fun h1 => ?_)
  · have hv' : sam s t a b = false := decide_eq_false (fun h => h1 h.1)
    refine J.yl (y_move rfl rfl) rfl rfl rfl ?_
    refine J.gno (b := true) rfl rfl rfl rfl rfl rfl ?_
    refine J.gno (b := true) rfl rfl rfl rfl rfl rfl ?_
    refine J.gno (b := true) rfl rfl rfl rfl rfl rfl ?_
    refine J.gno (b := true) rfl rfl rfl rfl rfl rfl ?_
    refine J.gno (b := true) rfl rfl rfl rfl rfl rfl ?_
    refine J.gno (b := true) rfl rfl rfl rfl rfl rfl ?_
    refine J.gno (b := true) rfl rfl rfl rfl rfl rfl ?_
    refine J.yl (y_pick rfl rfl (fun _ => rfl) (fun h => by cases h)) rfl rfl rfl ?_
    refine J.nil ?_
    refine JQ.next hK3 ?_
    refine JC.yes rfl ?_
    refine JC.seq fun K4 hK4 => ?_
    refine JC.region ?_
    refine J.yl (y_assign rfl rfl) rfl rfl rfl ?_
    refine J.nil ?_
    refine JQ.next hK4 ?_
    refine JC.ret ?_
    refine JQ.then_ret ?_
    exact ret1 rfl (r_tmp rfl) fun w hs => by rw [hv']; exact Post.pure hs
  · refine J.yl (y_move rfl rfl) rfl rfl rfl ?_
    refine J.gyes (y_fb rfl Tb.fo87_1 rfl) rfl rfl rfl rfl rfl rfl ?_
    refine J.gyes (y_lb 1 rfl Tb.ag22 rfl rfl rfl) rfl rfl rfl rfl rfl rfl ?_
    refine J.gyes (y_len rfl Tryd.underlying22 rfl) rfl rfl rfl rfl rfl rfl ?_
    refine J.gyes (y_fb rfl Tb.fo87_1 rfl) rfl rfl rfl rfl rfl rfl ?_
    refine J.gyes (y_lb 0 rfl Tb.ag22 rfl rfl rfl) rfl rfl rfl rfl rfl rfl ?_
    refine J.gyes (y_len rfl Tryd.underlying22 rfl) rfl rfl rfl rfl rfl rfl ?_
    refine J.gyes (y_ne rfl rfl rfl) rfl rfl rfl rfl rfl rfl ?_
    refine J.yl (y_pick rfl rfl (fun h => by cases h) (fun _ => rfl)) rfl rfl rfl ?_
    refine J.nil ?_
    refine JQ.next hK3 ?_
    refine JC.condn rfl (fun h2 => ?_) (fun h2 => ?_)
    · have hv' : sam s t a b = false := decide_eq_false (fun h => by have := h.2; subst this; omega)
      refine JC.seq fun K5 hK5 => ?_
      refine JC.region ?_
      refine J.yl (y_assign rfl rfl) rfl rfl rfl ?_
      refine J.nil ?_
      refine JQ.next hK5 ?_
      refine JC.ret ?_
      refine JQ.then_ret ?_
      exact ret1 rfl (r_tmp rfl) fun w hs => by rw [hv']; exact Post.pure hs
    · obtain rfl : n = m := by omega
      refine JC.skip ?_
      refine JQ.next hK2 ?_
      refine JC.seq fun K6 hK6 => ?_
      refine JC.seq fun K7 hK7 => ?_
      refine JC.region ?_
      refine J.yl (y_assign rfl rfl) rfl rfl rfl ?_
      refine J.nil ?_
      refine JQ.next hK7 ?_
      refine JC.block ?_
      refine JC.loopE (σ := Nat) (M := fun q => [(5, .int .i64 (q : Int))]) (kp := [(2, _), (3, _)]) (hkp := (okE_cons rfl (okE_cons rfl okE_nil))) (Dc := fun _ => [.box g3 87 [.int .i64 t, .slice B n j], .box g2 87 [.int .i64 s, .slice A n k]]) (H := fun _ => F) (Ψ := fun q => q ≤ n ∧ a.take q = b.take q) (μ := fun q => n - q) 0 ⟨Nat.zero_le _, rfl⟩ (okE_cons rfl okE_nil) (fun w h => h) (fun i ⟨hi, he⟩ K8 againK8 => ?_)
      refine JC.seq fun K9 hK9 => ?_
      refine JC.seq fun K10 hK10 => ?_
      refine JC.region ?_
      refine J.yl (y_move rfl rfl) rfl rfl rfl ?_
      refine J.yl (y_fb rfl Tb.fo87_1 rfl) rfl rfl rfl ?_
      refine J.yl (y_lb 1 rfl Tb.ag22 rfl rfl rfl) rfl rfl rfl ?_
      refine J.yl (y_len rfl Tryd.underlying22 rfl) rfl rfl rfl ?_
      refine J.yl (y_lt rfl rfl rfl) rfl rfl rfl ?_
      refine J.nil ?_
      refine JQ.next hK10 ?_
      refine JC.condp rfl (fun h3 => ?_) (fun h3 => ?_)
      · obtain ⟨x, hx⟩ : ∃ x, a[i]? = some x := ⟨_, List.getElem?_eq_getElem (show i < a.length by omega)⟩
        obtain ⟨y, hy⟩ : ∃ x, b[i]? = some x := ⟨_, List.getElem?_eq_getElem (show i < b.length by omega)⟩
        refine JC.skip ?_
        refine JQ.next hK9 ?_
        refine JC.seq fun K11 hK11 => ?_
        refine JC.block ?_
        refine JC.seq fun K12 hK12 => ?_
        refine JC.draw (by kernel_rfl) ?_
        refine D.take 0 (y_fb rfl Tb.fo87_1 rfl) rfl rfl rfl rfl (by kernel_rfl) (by kernel_rfl) (by kernel_rfl) (PQ.next (PQ.block (PQ.next (PQ.next (PQ.block (PQ.next PQ.body)))))) ?_
        refine D.take 1 (y_lb 1 rfl Tb.ag22 rfl rfl rfl) rfl rfl rfl rfl (by kernel_rfl) (by kernel_rfl) (by kernel_rfl) (PQ.next (PQ.block (PQ.next (PQ.next (PQ.block (PQ.next PQ.body)))))) ?_
        refine D.take 2 (y_move rfl rfl) rfl rfl rfl rfl (by kernel_rfl) (by kernel_rfl) (by kernel_rfl) (PQ.next (PQ.block (PQ.next (PQ.next (PQ.block (PQ.next PQ.body)))))) ?_
        refine D.take 5 (y_fb rfl Tb.fo87_1 rfl) rfl rfl rfl rfl (by kernel_rfl) (by kernel_rfl) (by kernel_rfl) (PQ.next (PQ.block (PQ.next (PQ.next (PQ.block (PQ.next PQ.body)))))) ?_
        refine D.take 6 (y_lb 0 rfl Tb.ag22 rfl rfl rfl) rfl rfl rfl rfl (by kernel_rfl) (by kernel_rfl) (by kernel_rfl) (PQ.next (PQ.block (PQ.next (PQ.next (PQ.block (PQ.next PQ.body)))))) ?_
        refine D.take 7 (y_move rfl rfl) rfl rfl rfl rfl (by kernel_rfl) (by kernel_rfl) (by kernel_rfl) (PQ.next (PQ.block (PQ.next (PQ.next (PQ.block (PQ.next PQ.body)))))) ?_
        refine D.take 3 (y_hidx i rfl Tryd.underlying22 Tb.sz30 rfl rfl rfl hn (by omega) (fun w hs => hA w hs.fact)) rfl rfl rfl rfl (by kernel_rfl) (by kernel_rfl) (by kernel_rfl) (PQ.next (PQ.block (PQ.next (PQ.next (PQ.block (PQ.next PQ.body)))))) ?_
        refine D.take 4 (y_hld x rfl Tb.ag30 Tb.sz30 rfl hx (fun w hs => hA w hs.fact)) rfl rfl rfl rfl (by kernel_rfl) (by kernel_rfl) (by kernel_rfl) (PQ.next (PQ.block (PQ.next (PQ.next (PQ.block (PQ.next PQ.body)))))) ?_
        refine D.take 8 (y_hidx i rfl Tryd.underlying22 Tb.sz30 rfl rfl rfl hm (by omega) (fun w hs => hB w hs.fact)) rfl rfl rfl rfl (by kernel_rfl) (by kernel_rfl) (by kernel_rfl) (PQ.next (PQ.block (PQ.next (PQ.next (PQ.block (PQ.next PQ.body)))))) ?_
        refine D.take 9 (y_hld y rfl Tb.ag30 Tb.sz30 rfl hy (fun w hs => hB w hs.fact)) rfl rfl rfl rfl (by kernel_rfl) (by kernel_rfl) (by kernel_rfl) (PQ.next (PQ.block (PQ.next (PQ.next (PQ.block (PQ.next PQ.body)))))) ?_
        refine D.take 10 (y_hne rfl Tryd.underlying30 Tryd.underlying5 Tb.ag5 Tb.sz5 Tb.eg30 rfl rfl) rfl rfl rfl rfl (by kernel_rfl) (by kernel_rfl) (by kernel_rfl) (PQ.next (PQ.block (PQ.next (PQ.next (PQ.block (PQ.next PQ.body)))))) ?_
        refine D.done (by kernel_rfl) ?_
        refine JQ.next hK12 ?_
        refine JC.condn rfl (fun h4 => ?_) (fun h4 => ?_)
        · have hv' : sam s t a b = false := decide_eq_false (fun h => by
            have e := h.2
            subst e
            rw [hx] at hy
            exact h4 (Option.some.inj hy))
          refine JC.seq fun K13 hK13 => ?_
          refine JC.region ?_
          refine J.yl (y_assign rfl rfl) rfl rfl rfl ?_
          refine J.nil ?_
          refine JQ.next hK13 ?_
          refine JC.ret ?_
          refine JQ.block_ret (JQ.then_ret (JQ.then_ret (JQ.block_ret (JQ.then_ret ?_))))
          exact ret1 rfl (r_tmp rfl) fun w hs => by rw [hv']; exact Post.pure hs
        · obtain rfl : x = y := h4
          refine JC.skip ?_
          refine JQ.block_normal (JQ.next hK11 ?_)
          refine JC.region ?_
          refine J.yl (y_move rfl rfl) rfl rfl rfl ?_
          refine J.yl (y_add64 rfl rfl rfl (by omega)) rfl rfl rfl ?_
          refine J.yl (y_assign rfl rfl) rfl rfl rfl ?_
          refine J.nil ?_
          refine againK8 (i + 1) _ ⟨by omega, by rw [List.take_add_one, List.take_add_one, he, hx, hy]⟩ (by omega) (okE_cons (slotI (by omega)) okE_nil) (okE_cons rfl (okE_cons rfl okE_nil))
      · have hv' : sam s t a b = true := decide_eq_true ⟨h1, by
          rw [List.take_of_length_le (by omega), List.take_of_length_le (by omega)] at he
          exact he⟩
        refine JC.exit ?_
        refine JQ.then_exit (JQ.then_exit (JQ.block_hit (JQ.next hK6 ?_)))
        refine JC.seq fun K14 hK14 => ?_
        refine JC.region ?_
        refine J.yl (y_assign rfl rfl) rfl rfl rfl ?_
        refine J.nil ?_
        refine JQ.next hK14 ?_
        refine JC.ret ?_
        exact ret1 rfl (r_tmp rfl) fun w hs => by rw [hv']; exact Post.pure hs
theorem rgreat_fn (s : Int) (A : Option Addr) (n k : Nat) : PureFn Tryd.prog Gl 56 [.agg #[.int .i64 s, .slice A n k]] F (.bool (decide (100 < (n : Int)))) := by
  refine FnSpec.intro Tryd.func56 rfl Tryd.ntmps56 rfl fun X M w => ?_
  refine JC.seq fun K1 hK1 => ?_
  refine JC.region ?_
  refine J.box rfl rfl rfl rfl rfl rfl fun g1 => ?_
  refine J.yl (y_assign rfl rfl) rfl rfl rfl ?_
  refine J.nil ?_
  refine JQ.next hK1 ?_
  refine JC.seq fun K2 hK2 => ?_
  refine JC.region ?_
  refine J.yl (y_fb rfl Tb.fo87_1 rfl) rfl rfl rfl ?_
  refine J.yl (y_lb 0 rfl Tb.ag22 rfl rfl rfl) rfl rfl rfl ?_
  refine J.yl (y_len rfl Tryd.underlying22 rfl) rfl rfl rfl ?_
  refine J.yl (y_gt rfl rfl rfl) rfl rfl rfl ?_
  refine J.yl (y_assign rfl rfl) rfl rfl rfl ?_
  refine J.nil ?_
  refine JQ.next hK2 ?_
  refine JC.ret ?_
  exact ret1 rfl (r_tmp rfl) fun w hs => Post.pure hs
end Go.Proofs.YtjkfeonbioccmaaDoor
namespace Go.Proofs.YtjkfeonbioccmaaDoor
open Go Go.Sx Go.RowKit
set_option linter.unusedVariables false
set_option linter.unusedSimpArgs false
set_option maxRecDepth 100000
set_option maxHeartbeats 4000000
variable {Gl F : World → Prop}
theorem sl_none {w : World} {l : List H} (h : Sl w none (hcs l)) : l = [] := by
  rcases h with h | ⟨h, _⟩
  · have := congrArg List.length h
    rw [length_hcs, List.length_nil] at this
    exact List.eq_nil_of_length_eq_zero (by omega)
  · cases h
theorem clone22_fn (l : List H) (A : Option Addr) (n k : Nat) (hn : l.length = n) (hM : n ≤ 1000000) (hA : ∀ w, F w → Sl w A (hcs l)) :
    FnSpec Tryd.prog Gl 135 [.slice A n k] [] F (ι := Option Addr × Nat) (fun q => n ≤ q.2) (fun q => .slice q.1 n q.2) (fun q => [.row (.slice q.1 n q.2) 30 32 n (hcs l)]) (fun _ _ => True) := by
  refine FnSpec.intro Tryd.func135 rfl Tryd.ntmps135 rfl fun X M w => ?_
  refine JC.seq fun K1 hK1 => ?_
  refine JC.region ?_
  refine J.yl (y_assign rfl rfl) rfl rfl rfl ?_
  refine J.nil ?_
  refine JQ.next hK1 ?_
  refine JC.seq fun K2 hK2 => ?_
  refine JC.seq fun K3 hK3 => ?_
  refine JC.region ?_
  refine J.yl (y_move rfl rfl) rfl rfl rfl ?_
  refine J.yl (y_slnil rfl Tryd.underlying22 rfl rfl) rfl rfl rfl ?_
  refine J.nil ?_
  refine JQ.next hK3 ?_
  refine JC.cond rfl (fun h1 => ?_) (fun h1 => ?_)
  · refine JC.seq fun K4 hK4 => ?_
    refine JC.region ?_
    refine J.yl (y_assign rfl rfl) rfl rfl rfl ?_
    refine J.nil ?_
    refine JQ.next hK4 ?_
    refine JC.ret ?_
    refine JQ.then_ret ?_
    refine JQ.st ?_ (fun w hs => hs.nilrow 30 32)
    exact ret1 rfl (r_tmp rfl) fun w hs => by
      have h0 : A = none := by cases A with
        | none => rfl
        | some a => cases h1
      subst h0
      have hl := sl_none (hA w hs.fact)
      subst hl
      subst hn
      exact Post.of_st hs (none, 0) (Nat.le_refl _) (List.Sublist.refl _) fun _ _ => trivial
  · refine JC.skip ?_
    refine JQ.next hK2 ?_
    refine JC.seq fun K5 hK5 => ?_
    refine JC.region ?_
    refine J.bs0 rfl rfl rfl rfl Tryd.underlying22 Tb.sz30 fun g => ?_
    refine J.yl (y_move rfl rfl) rfl rfl rfl ?_
    refine J.append 0 rfl rfl rfl rfl rfl rfl Tryd.underlying22 Tb.zz30 Tb.sz30 Tb.by30 rfl (by decide) rfl (show (hcs l).length = n * 32 by rw [length_hcs, hn]) (fun w hs => hA w hs.fact) (hcs1 l) (by omega) (by decide) (Nat.zero_add n) (List.nil_append _) fun A2 k2 _ hk2 => ?_
    refine J.yl (y_assign rfl rfl) rfl rfl rfl ?_
    refine J.nil ?_
    refine JQ.next hK5 ?_
    refine JC.ret ?_
    exact ret1 rfl (r_tmp rfl) fun w hs => Post.of_st hs (A2, k2) hk2 (List.Sublist.refl _) fun _ _ => trivial
theorem bit_and (m j i : Nat) : (m * 2 ^ j) &&& 2 ^ (j + i) = if m / 2 ^ i % 2 = 1 then 2 ^ (j + i) else 0 := by
  have hj : 0 < 2 ^ j := Nat.pow_pos (by decide)
  have hd : m * 2 ^ j / 2 ^ (j + i) = m / 2 ^ i := by
    rw [Nat.pow_add, Nat.mul_comm m, Nat.mul_div_mul_left _ _ hj]
  apply Nat.eq_of_testBit_eq
  intro q
  rw [Nat.testBit_and, Nat.testBit_two_pow]
  by_cases hq : j + i = q
  · subst hq
    rw [Nat.testBit_eq_decide_div_mod_eq, hd]
    by_cases h : m / 2 ^ i % 2 = 1
    · rw [if_pos h, Nat.testBit_two_pow]; simp [h]
    · rw [if_neg h]; simp [h]
  · rw [decide_eq_false hq, Bool.and_false]
    split
    · rw [Nat.testBit_two_pow, decide_eq_false hq]
    · simp
theorem fill_Rg (x : Int) (v : Value) (hv' : v.cells.size = 1) (h1 : v.cells = #[v]) : Instr.fill (fun i : Nat => [(0, 1), (1, 1)][i]?) (#[.int .i64 0, .slice none 0 0] : Array Value) [(0, .int .i64 x), (1, v)] = some #[.int .i64 x, v] := by
  rw [fill_one (vs := [.int .i64 x]) (off := 0) rfl rfl (Nat.le_of_ble_eq_true rfl), fill_one (vs := [v]) (off := 1) rfl h1 (Nat.le_of_ble_eq_true rfl), Instr.fill]
  rfl
theorem push_fn (j m : Nat) (rs : List H) (h : H) (sz pz : Int) (A : Option Addr) (n k : Nat) (hsz : sz = ((m * 2 ^ j : Nat) : Int)) (hpz : pz = ((2 ^ j : Nat) : Int)) (hn : rs.length = n) (ho : n = ones m) (hS : m * 2 ^ j ≤ 4096) (hP : 2 ^ j ≤ 4096) (hN : n ≤ 4096) (hA : ∀ w, F w → Sl w A (hcs rs.reverse)) :
    FnSpec Tryd.prog Gs 136 [.agg #[.int .i64 sz, .slice A n k], .int .i64 pz, hv h] [] F (ι := Option Addr × Nat) (fun q => (carry m rs h).reverse.length ≤ q.2) (fun q => .agg #[.int .i64 (sz + pz), .slice q.1 (carry m rs h).reverse.length q.2]) (OwnL (carry m rs h).reverse) (fun _ _ => True) := by
  subst hsz hpz
  refine FnSpec.intro Tryd.func136 rfl Tryd.ntmps136 rfl fun X M w => ?_
  refine JC.seq fun K1 hK1 => ?_
  refine JC.region ?_
  refine J.box rfl rfl rfl rfl rfl rfl fun g3 => ?_
  refine J.box rfl rfl rfl rfl rfl rfl fun g5 => ?_
  refine J.alloc rfl rfl rfl rfl Tb.zz87 rfl fun g6 => ?_
  refine J.nil ?_
  refine JQ.next hK1 ?_
  refine JC.seq fun K2 hK2 => ?_
  refine JC.region ?_
  refine J.yl (y_fb rfl Tb.fo87_1 rfl) rfl rfl rfl ?_
  refine J.yl (y_lb 2 rfl Tb.ag22 rfl rfl rfl) rfl rfl rfl ?_
  refine J.callR (Cin := []) rfl rfl rfl rfl Tb.cl135 rfl rfl (clone22_fn rs.reverse A n k (by rw [List.length_reverse]; exact hn) (by omega) (fun w h => hA w h.1)) ?_
  rintro ⟨B, cap⟩ hcap
  refine J.yl (y_assign rfl rfl) rfl rfl rfl ?_
  refine J.nil ?_
  refine JQ.next hK2 ?_
  refine JC.seq fun K3 hK3 => ?_
  refine JC.seq fun K4 hK4 => ?_
  refine JC.region ?_
  refine J.yl (y_move rfl rfl) rfl rfl rfl ?_
  refine J.yl (y_assign rfl rfl) rfl rfl rfl ?_
  refine J.nil ?_
  refine JQ.next hK4 ?_
  refine JC.block ?_
  have hcap : n ≤ cap := hcap
  have hpj : 0 < 2 ^ j := Nat.pow_pos (by decide)
  refine JC.loopE (σ := Nat × List H × H) (M := fun q => [(7, .slice B q.2.1.length cap), (8, .int .i64 ((2 ^ (j + q.1) : Nat) : Int))]) (kp := [(1, _), (3, _), (5, _), (6, _)]) (hkp := (okE_cons rfl (okE_cons rfl (okE_cons rfl (okE_cons rfl okE_nil))))) (Dc := fun q => [.row (.slice B q.2.1.length cap) 30 32 q.2.1.length (hcs q.2.1.reverse), .box g6 87 [.int .i64 0, .slice none 0 0], .box g5 30 (hc q.2.2), .box g3 87 [.int .i64 ((m * 2 ^ j : Nat) : Int), .slice A n k]]) (H := fun _ => F) (Ψ := fun q => 2 ^ (j + q.1) ≤ 8192 ∧ q.2.1.length ≤ n ∧ q.2.1.length = ones (m / 2 ^ q.1) ∧ carry m rs h = carry (m / 2 ^ q.1) q.2.1 q.2.2) (μ := fun q => q.2.1.length) (0, rs, h) ⟨by dsimp only; rw [Nat.add_zero]; omega, by dsimp only; omega, by dsimp only; rw [Nat.pow_zero, Nat.div_one]; omega, by dsimp only; rw [Nat.pow_zero, Nat.div_one]⟩ (okE_cons (by rw [hn]; rfl) (okE_cons rfl okE_nil)) (fun w h => by dsimp only; rw [hn]; exact h) (fun sK5 hK5 K5 againK5 => ?_)
  obtain ⟨i, r, x⟩ := sK5
  dsimp only at hK5 againK5 ⊢
  obtain ⟨hi, hr, hro, hca⟩ := hK5
  refine JC.seq fun K6 hK6 => ?_
  refine JC.seq fun K7 hK7 => ?_
  refine JC.region ?_
  refine J.yl (y_fb rfl Tb.fo87_0 rfl) rfl rfl rfl ?_
  refine J.yl (y_lb 3 rfl Tb.ag3 rfl rfl rfl) rfl rfl rfl ?_
  refine J.yl (y_move rfl rfl) rfl rfl rfl ?_
  have hbit := bit_and m j i
  have hpi : 0 < 2 ^ (j + i) := Nat.pow_pos (by decide)
  refine J.yl (y_andNN (m * 2 ^ j) (2 ^ (j + i)) rfl rfl rfl rfl rfl (by omega) (by omega)) rfl rfl rfl ?_
  refine J.yl (y_ne rfl rfl rfl) rfl rfl rfl ?_
  refine J.nil ?_
  refine JQ.next hK7 ?_
  refine JC.condn rfl (fun h1 => ?_) (fun h1 => ?_)
  · have hodd : m / 2 ^ i % 2 = 1 := by
      by_cases hq : m / 2 ^ i % 2 = 1
      · exact hq
      · rw [hbit, if_neg hq] at h1; exact absurd rfl h1
    have hstep := ones_step (show m / 2 ^ i ≠ 0 by omega)
    have hdiv : m / 2 ^ i / 2 = m / 2 ^ (i + 1) := by rw [Nat.div_div_eq_div_mul, ← Nat.pow_succ]
    have hle : 2 ^ (j + i) ≤ 4096 := by
      have h2 : m * 2 ^ j &&& 2 ^ (j + i) ≤ m * 2 ^ j := Nat.and_le_left
      rw [hbit, if_pos hodd] at h2
      omega
    have hsucc : 2 ^ (j + (i + 1)) = 2 ^ (j + i) * 2 := by rw [← Nat.add_assoc, Nat.pow_succ]
    match r, hr, hro, hca with
    | [], _, hro, _ => rw [hstep, List.length_nil] at hro; omega
    | y :: r', hr, hro, hca =>
      rw [carry_odd hodd, hdiv] at hca
      rw [hstep, List.length_cons, hdiv] at hro
      have hrl : (y :: r').reverse.length = r'.length + 1 := by simp
      have hget : (y :: r').reverse[r'.length]? = some y := by rw [List.reverse_cons, List.getElem?_append_right (by simp)]; simp
      refine JC.skip ?_
      refine JQ.next hK6 ?_
      refine JC.seq fun K8 hK8 => ?_
      refine JC.block ?_
      refine JC.seq fun K9 hK9 => ?_
      refine JC.drawM [true, false, true, false] (by kernel_rfl) ?_
      refine D.take 0 (y_move rfl rfl) rfl rfl rfl rfl (by kernel_rfl) (by kernel_rfl) (by kernel_rfl) (PQ.next (PQ.block (PQ.next (PQ.next (PQ.block (PQ.next PQ.body)))))) ?_
      refine D.take 1 (y_move rfl rfl) rfl rfl rfl rfl (by kernel_rfl) (by kernel_rfl) (by kernel_rfl) (PQ.next (PQ.block (PQ.next (PQ.next (PQ.block (PQ.next PQ.body)))))) ?_
      refine D.take 2 (y_len rfl Tryd.underlying22 rfl) rfl rfl rfl rfl (by kernel_rfl) (by kernel_rfl) (by kernel_rfl) (PQ.next (PQ.block (PQ.next (PQ.next (PQ.block (PQ.next PQ.body)))))) ?_
      refine D.take 3 (y_sub64 rfl rfl rfl (by omega)) rfl rfl rfl rfl (by kernel_rfl) (by kernel_rfl) (by kernel_rfl) (PQ.next (PQ.block (PQ.next (PQ.next (PQ.block (PQ.next PQ.body)))))) ?_
      refine D.take 6 (y_lbW 1 rfl Tb.ag30 Tb.sz30 (hcl _) rfl rfl) rfl rfl rfl rfl (by kernel_rfl) (by kernel_rfl) (by kernel_rfl) (PQ.next (PQ.block (PQ.next (PQ.next (PQ.block (PQ.next PQ.body)))))) ?_
      refine D.take 4 (y_hidx (n := (y :: r').length) r'.length rfl Tryd.underlying22 Tb.sz30 rfl rfl (by rw [List.length_cons]; omega) (by rw [List.length_reverse]) (by rw [List.length_cons]; omega) (fun w hs => strow hs 0 rfl)) rfl rfl rfl rfl (by kernel_rfl) (by kernel_rfl) (by kernel_rfl) (PQ.next (PQ.block (PQ.next (PQ.next (PQ.block (PQ.next PQ.body)))))) ?_
      refine D.take 5 (y_hld y rfl Tb.ag30 Tb.sz30 rfl hget (fun w hs => strow hs 0 rfl)) rfl rfl rfl rfl (by kernel_rfl) (by kernel_rfl) (by kernel_rfl) (PQ.next (PQ.block (PQ.next (PQ.next (PQ.block (PQ.next PQ.body)))))) ?_
      refine D.ofJ 7 (by kernel_rfl) rfl fun KhK11 hK11 => ?_
      refine J.callv rfl rfl rfl rfl Tb.cl105 rfl (node_spec y x) ?_
      refine J.nil ?_
      refine hK11 _ _ _ (fun w hs => hs.mask [true, false, true, false]) ?_
      refine D.storeW 8 2 (by kernel_rfl) rfl (by kernel_rfl) (by kernel_rfl) rfl rfl rfl rfl rfl rfl rfl Tb.sz30  (hcl _) (hcl _) (hc1 _) ?_
      refine JQ.next hK9 ?_
      refine JC.region ?_
      refine J.yl (y_move rfl rfl) rfl rfl rfl ?_
      refine J.yl (y_move rfl rfl) rfl rfl rfl ?_
      refine J.yl (y_len rfl Tryd.underlying22 rfl) rfl rfl rfl ?_
      refine J.yl (y_sub64 rfl rfl rfl (by omega)) rfl rfl rfl ?_
      refine J.yl (y_cuttoN r'.length rfl Tryd.underlying22 Tb.sz30 rfl rfl (by rw [List.length_cons]; omega) (by rw [List.length_cons] at hr; omega)) rfl rfl rfl ?_
      refine J.yl (y_assign rfl rfl) rfl rfl rfl ?_
      refine J.nil ?_
      refine JQ.block_normal (JQ.next hK8 ?_)
      refine JC.region ?_
      refine J.yl (y_move rfl rfl) rfl rfl rfl ?_
      refine J.yl (y_mul64 rfl rfl rfl (by omega)) rfl rfl rfl ?_
      refine J.yl (y_assign rfl rfl) rfl rfl rfl ?_
      refine J.nil ?_
      refine JQ.short 0 r'.length rfl (by rw [List.length_cons]; omega) (show _ = hcs r'.reverse by rw [hcs_take, List.reverse_cons, List.take_append_of_le_length (by simp), List.take_of_length_le (by simp)]) ?_
      refine againK5 (i + 1, r', node y x) _ ⟨by dsimp only; omega, by dsimp only; rw [List.length_cons] at hr; omega, by dsimp only; omega, hca⟩ (by dsimp only; rw [List.length_cons]; omega) (okE_cons rfl (okE_cons (slotI (by dsimp only; omega)) okE_nil)) (okE_cons rfl (okE_cons rfl (okE_cons rfl (okE_cons rfl okE_nil))))
  · have heven : ¬ m / 2 ^ i % 2 = 1 := fun hq => by
      have h1 := h1
      rw [hbit, if_pos hq] at h1
      omega
    rw [carry_even heven] at hca
    have hrev : (carry m rs h).reverse = r.reverse ++ [x] := by rw [hca, List.reverse_cons]
    refine JC.exit ?_
    refine JQ.then_exit (JQ.then_exit (JQ.block_hit (JQ.next hK3 ?_)))
    refine JC.seq fun K12 hK12 => ?_
    refine JC.drawM [false, false, true, true] (by kernel_rfl) ?_
    refine D.take 0 (y_fb rfl Tb.fo87_0 rfl) rfl rfl rfl rfl (by kernel_rfl) (by kernel_rfl) (by kernel_rfl) (PQ.next PQ.body) ?_
    refine D.take 1 (y_lb 1 rfl Tb.ag3 rfl rfl rfl) rfl rfl rfl rfl (by kernel_rfl) (by kernel_rfl) (by kernel_rfl) (PQ.next PQ.body) ?_
    refine D.take 2 (y_move rfl rfl) rfl rfl rfl rfl (by kernel_rfl) (by kernel_rfl) (by kernel_rfl) (PQ.next PQ.body) ?_
    refine D.take 3 (y_add64 rfl rfl rfl (by omega)) rfl rfl rfl rfl (by kernel_rfl) (by kernel_rfl) (by kernel_rfl) (PQ.next PQ.body) ?_
    refine D.take 4 (y_move rfl rfl) rfl rfl rfl rfl (by kernel_rfl) (by kernel_rfl) (by kernel_rfl) (PQ.next PQ.body) ?_
    refine D.take 5 (y_lbW 0 rfl Tb.ag30 Tb.sz30 (hcl _) rfl rfl) rfl rfl rfl rfl (by kernel_rfl) (by kernel_rfl) (by kernel_rfl) (PQ.next PQ.body) ?_
    refine D.ofJ 6 (by kernel_rfl) rfl fun KhK13 hK13 => ?_
    refine J.bs1 rfl rfl rfl rfl rfl Tryd.underlying22 Tb.zz30 Tb.sz30 rfl (by decide) rfl (hcl _) fun g39 => ?_
    refine J.nil ?_
    refine hK13 _ _ _ (fun w hs => hs.mask [false, false, false, true, true]) ?_
    refine D.ofJ 7 (by kernel_rfl) rfl fun KhK14 hK14 => ?_
    refine J.append 1 rfl rfl rfl rfl rfl rfl Tryd.underlying22 Tb.zz30 Tb.sz30 Tb.by30 rfl (by decide) rfl (by rw [hcl]) (fun w hs => .inr ⟨rfl, At.box (hs.get (i := 0) rfl)⟩) (hc1 _) (by omega) (by decide) (show _ = (r.reverse ++ [x]).length by simp) (show _ = hcs (r.reverse ++ [x]) by rw [hcs_append, hcs_one]) fun A k hAx hkx => ?_
    refine J.drop ?_
    refine J.nil ?_
    refine hK14 _ _ _ (fun w hs => hs.mask [false, false, true, true]) ?_
    refine D.take 8 (y_buildS (pl := [(0, 1), (1, 1)]) (zs := [.int .i64 0, .slice none 0 0]) rfl (by kernel_rfl) (by kernel_rfl) rfl (fill_Rg _ _ rfl rfl)) rfl rfl rfl rfl (by kernel_rfl) (by kernel_rfl) (by kernel_rfl) (PQ.next PQ.body) ?_
    refine D.ofJ 9 (by kernel_rfl) rfl fun KhK16 hK16 => ?_
    refine J.storeW 1 rfl rfl rfl rfl rfl rfl rfl Tb.sz87 (by first | (simp [length_wl]; done) | rfl) (by first | (simp [length_wl]; done) | rfl) (by first | exact u32s1 _ | exact one_vc _ | (simp; done) | (intro u hu; simp only [List.mem_cons, List.not_mem_nil, or_false] at hu; rcases hu with rfl | rfl <;> rfl)) ?_
    refine J.nil ?_
    refine hK16 _ _ _ (fun w hs => hs.mask [false, false, true, true]) ?_
    refine D.done (by kernel_rfl) ?_
    refine JQ.next hK12 ?_
    refine JC.ret ?_
    exact ret1 rfl (r_cellA 1 rfl rfl Tb.ag87 Tb.sz87) fun w hs => by rw [hrev]; exact Post.of_st hs (A, k) hkx (.cons_cons _ (List.nil_sublist _)) fun _ _ => trivial
end Go.Proofs.YtjkfeonbioccmaaDoor
namespace Go.Proofs.YtjkfeonbioccmaaDoor
open Go Go.Sx Go.RowKit
set_option linter.unusedVariables false
set_option linter.unusedSimpArgs false
set_option maxRecDepth 100000
set_option maxHeartbeats 4000000
variable {Gl F : World → Prop}
theorem step_fn (a n : Nat) (x y : Int) (hx : x = a) (hy : y = a + n) (h1 : 1 ≤ n) (hN : n ≤ 100000) (ha : a ≤ 100000) : PureFn Tryd.prog Gl 129 [.int .i64 x, .int .i64 y] F (.int .i64 (stp a n : Int)) := by
  subst hx hy
  obtain ⟨js, es, hs1, hs2, hs3⟩ := stp_spec n a n (Nat.le_refl _) h1
  have fin : ∀ i, 2 ^ i ≤ n → a % 2 ^ i = 0 → ¬ (2 * 2 ^ i ≤ n ∧ a % (2 * 2 ^ i) = 0) → stp a n = 2 ^ i := fun i p q r => by
    rw [es, stp_uniq ⟨hs1, hs2, hs3⟩ ⟨p, q, r⟩]
  refine FnSpec.intro Tryd.func129 rfl Tryd.ntmps129 rfl fun X M w => ?_
  refine JC.seq fun K1 hK1 => ?_
  refine JC.region ?_
  refine J.yl (y_assign rfl rfl) rfl rfl rfl ?_
  refine J.nil ?_
  refine JQ.next hK1 ?_
  refine JC.seq fun K2 hK2 => ?_
  refine JC.region ?_
  refine J.yl (y_assign rfl rfl) rfl rfl rfl ?_
  refine J.nil ?_
  refine JQ.next hK2 ?_
  refine JC.seq fun K3 hK3 => ?_
  refine JC.block ?_
  refine JC.loopE (σ := Nat × Unit) (M := fun q => [(5, .int .i64 ((2 ^ q.1 : Nat) : Int))]) (kp := [(0, _), (1, _)]) (hkp := (okE_cons rfl (okE_cons rfl okE_nil))) (Dc := fun _ => []) (H := fun _ => F) (Ψ := fun q => 2 ^ q.1 ≤ n ∧ a % 2 ^ q.1 = 0) (μ := fun q => n - 2 ^ q.1) (0, ()) ⟨by dsimp only; rw [Nat.pow_zero]; omega, by dsimp only; rw [Nat.pow_zero, Nat.mod_one]⟩ (okE_cons rfl okE_nil) (fun w h => h) (fun sK4 hK4 K4 againK4 => ?_)
  obtain ⟨i, u⟩ := sK4
  dsimp only at hK4 againK4 ⊢
  obtain ⟨hi, hd⟩ := hK4
  refine JC.seq fun K5 hK5 => ?_
  refine JC.seq fun K6 hK6 => ?_
  refine JC.region ?_
  refine J.yl (y_move rfl rfl) rfl rfl rfl ?_
  refine J.yl (y_move rfl rfl) rfl rfl rfl ?_
  refine J.yl (y_move rfl rfl) rfl rfl rfl ?_
  refine J.yl (y_sub64 rfl rfl rfl (by omega)) rfl rfl rfl ?_
  refine J.yl (y_quo64 rfl rfl rfl (by omega)) rfl rfl rfl ?_
  have hp : 0 < 2 ^ i := Nat.pow_pos (by decide)
  have hs : 2 ^ (i + 1) = 2 ^ i * 2 := Nat.pow_succ 2 i
  refine J.ylp (y_le rfl rfl rfl) rfl rfl rfl (fun h2 => ?_) (fun h2 => ?_)
  · refine J.yl (y_move rfl rfl) rfl rfl rfl ?_
    refine J.gyes (y_move rfl rfl) rfl rfl rfl rfl rfl rfl ?_
    refine J.gyes (y_move rfl rfl) rfl rfl rfl rfl rfl rfl ?_
    refine J.gyes (y_mul64 rfl rfl rfl (by omega)) rfl rfl rfl rfl rfl rfl ?_
    refine J.gyes (y_remN a (2 * 2 ^ i) rfl rfl rfl rfl (by omega) (by omega)) rfl rfl rfl rfl rfl rfl ?_
    refine J.gyes (y_eq rfl rfl rfl) rfl rfl rfl rfl rfl rfl ?_
    refine J.yl (y_pick rfl rfl (fun _ => rfl) (fun h => by cases h)) rfl rfl rfl ?_
    refine J.nil ?_
    refine JQ.next hK6 ?_
    refine JC.condp rfl (fun h3 => ?_) (fun h3 => ?_)
    · refine JC.skip ?_
      refine JQ.next hK5 ?_
      refine JC.block ?_
      refine JC.region ?_
      refine J.yl (y_move rfl rfl) rfl rfl rfl ?_
      refine J.yl (y_mul64 rfl rfl rfl (by omega)) rfl rfl rfl ?_
      refine J.yl (y_assign rfl rfl) rfl rfl rfl ?_
      refine J.nil ?_
      refine JQ.block_normal ?_
      refine againK4 (i + 1, ()) _ ⟨by dsimp only; omega, by dsimp only; rw [hs, Nat.mul_comm]; omega⟩ (by dsimp only; omega) (okE_cons (slotI (by dsimp only; omega)) okE_nil) (okE_cons rfl (okE_cons rfl okE_nil))
    · have hf := fin i hi hd (fun h => by omega)
      refine JC.exit ?_
      refine JQ.then_exit (JQ.then_exit (JQ.block_hit (JQ.next hK3 ?_)))
      refine JC.seq fun K7 hK7 => ?_
      refine JC.region ?_
      refine J.yl (y_move rfl rfl) rfl rfl rfl ?_
      refine J.yl (y_assign rfl rfl) rfl rfl rfl ?_
      refine J.nil ?_
      refine JQ.next hK7 ?_
      refine JC.ret ?_
      exact ret1 rfl (r_tmp rfl) fun w hs => by rw [hf]; exact Post.pure hs
  · have hf := fin i hi hd (fun h => by omega)
    refine J.yl (y_move rfl rfl) rfl rfl rfl ?_
    refine J.gno (b := false) rfl rfl rfl rfl rfl rfl ?_
    refine J.gno (b := false) rfl rfl rfl rfl rfl rfl ?_
    refine J.gno (b := false) rfl rfl rfl rfl rfl rfl ?_
    refine J.gno (b := false) rfl rfl rfl rfl rfl rfl ?_
    refine J.gno (b := false) rfl rfl rfl rfl rfl rfl ?_
    refine J.yl (y_pick rfl rfl (fun h => by cases h) (fun _ => rfl)) rfl rfl rfl ?_
    refine J.nil ?_
    refine JQ.next hK6 ?_
    refine JC.no rfl ?_
    refine JC.exit ?_
    refine JQ.then_exit (JQ.then_exit (JQ.block_hit (JQ.next hK3 ?_)))
    refine JC.seq fun K8 hK8 => ?_
    refine JC.region ?_
    refine J.yl (y_move rfl rfl) rfl rfl rfl ?_
    refine J.yl (y_assign rfl rfl) rfl rfl rfl ?_
    refine J.nil ?_
    refine JQ.next hK8 ?_
    refine JC.ret ?_
    exact ret1 rfl (r_tmp rfl) fun w hs => by rw [hf]; exact Post.pure hs
/-- What a range becomes with leaves more, and what is wrong with that. -/
def xOk (s : Int) (rs l : List H) : Prop := vld s rs = true ∧ ¬ (4096 - s < (l.length : Int))
instance (s : Int) (rs l : List H) : Decidable (xOk s rs l) := by unfold xOk; infer_instance
def xE (s : Int) (rs l : List H) : Int := if vld s rs = true then (if 4096 - s < (l.length : Int) then 60 else 0) else 2
def xS (s : Int) (rs l : List H) : Int := if xOk s rs l then s + l.length else 0
def xL (s : Int) (rs l : List H) : List H := if xOk s rs l then (ext s.toNat rs l).2.reverse else []
theorem vld_len (s : Int) (l l' : List H) (h : l.length = l'.length) : vld s l = vld s l' := by unfold vld; rw [h]
theorem zero_R : zO Tryd.prog 87 = some (.agg #[.int .i64 0, .slice none 0 0]) := Tb.zz87
theorem fill_R0 : Instr.fill (fun i : Nat => [(0, 1), (1, 1)][i]?) (#[.int .i64 0, .slice none 0 0] : Array Value) [] = some #[.int .i64 0, .slice none 0 0] := rfl
theorem extend_fn (s : Int) (rs l : List H) (A B : Option Addr) (n k m km : Nat) (hn : rs.length = n) (hm : l.length = m) (hN : n ≤ 1000000) (hA : ∀ w, F w → Sl w A (hcs rs.reverse)) (hB : ∀ w, F w → Sl w B (hcs l)) (h64 : in64 s) :
    FnSpec Tryd.prog Gs 66 [.agg #[.int .i64 s, .slice A n k], .slice B m km] [] F (ι := Option Addr × Nat) (fun q => (xL s rs l).length ≤ q.2) (fun q => .tuple #[.agg #[.int .i64 (xS s rs l), .slice q.1 (xL s rs l).length q.2], .int .i64 (xE s rs l)]) (OwnL (xL s rs l)) (fun _ _ => True) := by
  have hvr : vld s rs.reverse = vld s rs := vld_len _ _ _ (List.length_reverse ..)
  refine FnSpec.intro Tryd.func66 rfl Tryd.ntmps66 rfl fun X M w => ?_
  refine JC.seq fun K1 hK1 => ?_
  refine JC.region ?_
  refine J.box rfl rfl rfl rfl rfl rfl fun g2 => ?_
  refine J.alloc rfl rfl rfl rfl Tb.zz87 rfl fun g4 => ?_
  refine J.yl (y_assign rfl rfl) rfl rfl rfl ?_
  refine J.nil ?_
  refine JQ.next hK1 ?_
  refine JC.seq fun K2 hK2 => ?_
  refine JC.block ?_
  refine JC.seq fun K3 hK3 => ?_
  refine JC.region ?_
  refine J.yl (y_lbW 1 rfl Tb.ag87 Tb.sz87 (by first | (simp [length_wl]; done) | rfl) rfl rfl) rfl rfl rfl ?_
  refine J.callv rfl rfl rfl rfl Tb.cl67 rfl ((valid_fn s rs.reverse A n k (by rw [List.length_reverse]; exact hn)).to (by rw [hvr])) ?_
  refine J.yl (y_not rfl rfl) rfl rfl rfl ?_
  refine J.yl (y_assign rfl rfl) rfl rfl rfl ?_
  refine J.nil ?_
  refine JQ.next hK3 ?_
  refine JC.cond rfl (fun h1 => ?_) (fun h1 => ?_)
  · have hf : vld s rs = false := by simpa using h1
    have e1 : xE s rs l = 2 := by rw [xE, if_neg (by rw [hf]; decide)]
    have hno : ¬ xOk s rs l := fun h => by have := h.1; rw [hf] at this; exact absurd this (by decide)
    have e2 : xS s rs l = 0 := if_neg hno
    have e3 : xL s rs l = [] := if_neg hno
    refine JC.seq fun K4 hK4 => ?_
    refine JC.region ?_
    refine J.yl (y_buildS (pl := [(0, 1), (1, 1)]) (zs := [.int .i64 0, .slice none 0 0]) rfl (by kernel_rfl) (by kernel_rfl) rfl fill_R0) rfl rfl rfl ?_
    refine J.storeW 0 rfl rfl rfl rfl rfl rfl rfl Tb.sz87 (by first | (simp [length_wl]; done) | rfl) (by first | (simp [length_wl]; done) | rfl) (by first | exact u32s1 _ | exact one_vc _ | (simp; done) | (intro u hu; simp only [List.mem_cons, List.not_mem_nil, or_false] at hu; rcases hu with rfl | rfl <;> rfl)) ?_
    refine J.yl (y_assign rfl rfl) rfl rfl rfl ?_
    refine J.nil ?_
    refine JQ.next hK4 ?_
    refine JC.ret ?_
    refine JQ.block_ret (JQ.then_ret ?_)
    refine JQ.st ?_ (fun w hs => hs.nilrow 30 32)
    exact ret2 rfl (r_cellA 1 rfl rfl Tb.ag87 Tb.sz87) (r_tmp rfl) fun w hs => by rw [e1, e2, e3]; exact Post.of_st hs (none, 0) (Nat.le_refl _) (.cons_cons _ (List.nil_sublist _)) fun _ _ => trivial
  · have ht : vld s rs = true := by simpa using h1
    have hv3 : 0 ≤ s ∧ s ≤ 4096 ∧ rs.length = ones s.toNat := of_decide_eq_true ht
    obtain ⟨s, rfl⟩ : ∃ q : Nat, s = q := ⟨s.toNat, by omega⟩
    rw [Int.toNat_natCast] at hv3
    refine JC.seq fun K5 hK5 => ?_
    refine JC.region ?_
    refine J.yl (y_move rfl rfl) rfl rfl rfl ?_
    refine J.yl (y_len rfl Tryd.underlying22 rfl) rfl rfl rfl ?_
    refine J.yl (y_fb rfl Tb.fo87_0 rfl) rfl rfl rfl ?_
    refine J.yl (y_lb 1 rfl Tb.ag3 rfl rfl rfl) rfl rfl rfl ?_
    refine J.yl (y_sub64 rfl rfl rfl (by omega)) rfl rfl rfl ?_
    refine J.yl (y_gt rfl rfl rfl) rfl rfl rfl ?_
    refine J.yl (y_assign rfl rfl) rfl rfl rfl ?_
    refine J.nil ?_
    refine JQ.next hK5 ?_
    refine JC.condp rfl (fun h2 => ?_) (fun h2 => ?_)
    · have e1 : xE s rs l = 60 := by rw [xE, if_pos ht, if_pos (by omega)]
      have hno : ¬ xOk s rs l := fun h => h.2 (by omega)
      have e2 : xS s rs l = 0 := if_neg hno
      have e3 : xL s rs l = [] := if_neg hno
      refine JC.seq fun K6 hK6 => ?_
      refine JC.region ?_
      refine J.yl (y_buildS (pl := [(0, 1), (1, 1)]) (zs := [.int .i64 0, .slice none 0 0]) rfl (by kernel_rfl) (by kernel_rfl) rfl fill_R0) rfl rfl rfl ?_
      refine J.storeW 0 rfl rfl rfl rfl rfl rfl rfl Tb.sz87 (by first | (simp [length_wl]; done) | rfl) (by first | (simp [length_wl]; done) | rfl) (by first | exact u32s1 _ | exact one_vc _ | (simp; done) | (intro u hu; simp only [List.mem_cons, List.not_mem_nil, or_false] at hu; rcases hu with rfl | rfl <;> rfl)) ?_
      refine J.yl (y_assign rfl rfl) rfl rfl rfl ?_
      refine J.nil ?_
      refine JQ.next hK6 ?_
      refine JC.ret ?_
      refine JQ.block_ret (JQ.then_ret ?_)
      refine JQ.st ?_ (fun w hs => hs.nilrow 30 32)
      exact ret2 rfl (r_cellA 1 rfl rfl Tb.ag87 Tb.sz87) (r_tmp rfl) fun w hs => by rw [e1, e2, e3]; exact Post.of_st hs (none, 0) (Nat.le_refl _) (.cons_cons _ (List.nil_sublist _)) fun _ _ => trivial
    · have e1 : xE s rs l = 0 := by rw [xE, if_pos ht, if_neg (by omega)]
      have hok : xOk s rs l := ⟨ht, by omega⟩
      have e2 : xS s rs l = ((s + m : Nat) : Int) := by rw [xS, if_pos hok, hm]; omega
      have e3 : xL s rs l = (ext s rs l).2.reverse := by rw [xL, if_pos hok, Int.toNat_natCast]
      have hsm : s + m ≤ 4096 := by omega
      refine JC.skip ?_
      refine JQ.block_normal (JQ.next hK2 ?_)
      refine JC.seq fun K7 hK7 => ?_
      refine JC.region ?_
      refine J.yl (y_fb rfl Tb.fo87_1 rfl) rfl rfl rfl ?_
      refine J.yl (y_lb 1 rfl Tb.ag22 rfl rfl rfl) rfl rfl rfl ?_
      refine J.callR (Cin := []) rfl rfl rfl rfl Tb.cl135 rfl rfl (clone22_fn rs.reverse A n k (by rw [List.length_reverse]; exact hn) (by omega) (fun w h => hA w h.1)) ?_
      rintro ⟨A2, k2⟩ hk2
      refine J.yl (y_fb rfl Tb.fo87_1 rfl) rfl rfl rfl ?_
      refine J.store1 2 rfl rfl rfl rfl rfl rfl rfl Tb.sz22 (by first | (simp; done) | exact Nat.le_of_ble_eq_true rfl) rfl ?_
      refine J.nil ?_
      refine JQ.next hK7 ?_
      refine JC.seq fun K8 hK8 => ?_
      refine JC.seq fun K9 hK9 => ?_
      refine JC.region ?_
      refine J.yl (y_move rfl rfl) rfl rfl rfl ?_
      refine J.yl (y_len rfl Tryd.underlying22 rfl) rfl rfl rfl ?_
      refine J.yl (y_move rfl rfl) rfl rfl rfl ?_
      refine J.nil ?_
      refine JQ.next hK9 ?_
      refine JC.block ?_
      refine JC.front 1 rfl ?_
      refine JC.front 2 rfl ?_
      refine JC.front 2 rfl ?_
      refine JC.loopE (σ := Nat × Nat × List H × Option Addr × Nat) (M := fun q => [(27, .int .i64 (q.1 : Int))]) (kp := [(2, _), (4, _), (5, _), (25, _), (26, _)]) (hkp := (okE_cons rfl (okE_cons rfl (okE_cons rfl (okE_cons rfl (okE_cons rfl okE_nil)))))) (Dc := fun q => [.row (.slice q.2.2.2.1 q.2.2.1.reverse.length q.2.2.2.2) 30 32 q.2.2.1.reverse.length (hcs q.2.2.1.reverse), .box g2 87 [.int .i64 (q.2.1 : Int), .slice q.2.2.2.1 q.2.2.1.reverse.length q.2.2.2.2], .box g4 87 [.int .i64 0, .slice none 0 0]]) (H := fun _ => F) (Ψ := fun q => q.1 ≤ m ∧ (q.2.1, q.2.2.1) = ext s rs (l.take q.1) ∧ q.2.2.1.reverse.length ≤ q.2.2.2.2 ∧ q.2.1 = s + q.1 ∧ q.2.2.1.length = ones q.2.1 ∧ q.2.2.1.length ≤ 1000000) (μ := fun q => m - q.1) (0, s, rs, A2, k2) ⟨Nat.zero_le _, rfl, by dsimp only; rw [List.length_reverse, hn]; exact hk2, by simp, hv3.2.2, by dsimp only; omega⟩ (okE_cons rfl okE_nil) (fun w h => by dsimp only; rw [List.length_reverse, hn]; exact h) (fun sK10 hK10 K10 againK10 => ?_)
      obtain ⟨i, z, r, A3, k3⟩ := sK10
      dsimp only at hK10 againK10 ⊢
      obtain ⟨hi, he, hk3, hz, hro, hrM⟩ := hK10
      refine JC.seq fun K11 hK11 => ?_
      refine JC.region ?_
      refine J.yl (y_lt rfl rfl rfl) rfl rfl rfl ?_
      refine J.nil ?_
      refine JQ.next hK11 ?_
      refine JC.seq fun K12 hK12 => ?_
      refine JC.condp rfl (fun h3 => ?_) (fun h3 => ?_)
      · obtain ⟨x, hx⟩ : ∃ x, l[i]? = some x := ⟨_, List.getElem?_eq_getElem (show i < l.length by omega)⟩
        have hones : ∀ q, q ≤ 4096 → ones q ≤ 4096 := fun q hq => by
          have := rng_len (List.replicate q x)
          rw [List.length_replicate] at this
          have h2 := oc_ones q hq
          have h3 := and_le 127 (oc q)
          rw [Nat.and_comm] at h3
          omega
        have hnext : ext s rs (l.take (i + 1)) = (z + 1, carry z r x) := by
          rw [List.take_add_one, hx, Option.toList_some, ext_snoc, ← he]
        have hclen := carry_len z z r x (Nat.le_refl _) hro
        have hcr : (carry z r x).reverse.length = (carry z r x).length := List.length_reverse ..
        have hb1 := hones (z + 1) (by omega)
        have hb2 := hones z (by omega)
        refine JC.skip ?_
        refine JQ.next hK12 ?_
        refine JC.seq fun K13 hK13 => ?_
        refine JC.block ?_
        refine JC.seq fun K14 hK14 => ?_
        refine JC.region ?_
        refine J.yl (y_hidx i rfl Tryd.underlying22 Tb.sz30 rfl rfl rfl hm (by omega) (fun w hs => hB w hs.fact)) rfl rfl rfl ?_
        refine J.yl (y_hld x rfl Tb.ag30 Tb.sz30 rfl hx (fun w hs => hB w hs.fact)) rfl rfl rfl ?_
        refine J.alloc rfl rfl rfl rfl Tb.zz30 rfl fun g7 => ?_
        refine J.storeW 0 rfl rfl rfl rfl rfl rfl rfl Tb.sz30 (hcl _) (hcl _) (hc1 _) ?_
        refine J.nil ?_
        refine JQ.next hK14 ?_
        refine JC.region ?_
        refine J.yl (y_lbW 2 rfl Tb.ag87 Tb.sz87 (by first | (simp [length_wl]; done) | rfl) rfl rfl) rfl rfl rfl ?_
        refine J.yl (y_lbW 0 rfl Tb.ag30 Tb.sz30 (hcl _) rfl rfl) rfl rfl rfl ?_
        refine J.callR (Cin := []) rfl rfl rfl rfl Tb.cl136 rfl rfl (push_fn 0 z r x z 1 A3 r.reverse.length k3 (by rw [Nat.pow_zero, Nat.mul_one]) rfl (List.length_reverse ..).symm (by rw [List.length_reverse]; exact hro) (by rw [Nat.pow_zero]; omega) (by decide) (by rw [List.length_reverse]; omega) (fun w h => ckrow 1 rfl h)) ?_
        rintro ⟨A4, k4⟩ hk4
        refine J.storeW 3 rfl rfl rfl rfl rfl rfl rfl Tb.sz87 (by first | (simp [length_wl]; done) | rfl) (by first | (simp [length_wl]; done) | rfl) (by first | exact u32s1 _ | exact one_vc _ | (simp; done) | (intro u hu; simp only [List.mem_cons, List.not_mem_nil, or_false] at hu; rcases hu with rfl | rfl <;> rfl)) ?_
        refine J.nil ?_
        refine JQ.block_normal (JQ.next hK13 ?_)
        refine JC.region ?_
        refine J.yl (y_add64 rfl rfl rfl (by omega)) rfl rfl rfl ?_
        refine J.yl (y_move rfl rfl) rfl rfl rfl ?_
        refine J.nil ?_
        refine JQ.front 4 rfl ?_
        refine JQ.front 4 rfl ?_
        refine JQ.front 2 rfl ?_
        refine JQ.keepn 3 ?_
        refine againK10 (i + 1, z + 1, carry z r x, A4, k4) _ ⟨by dsimp only; omega, hnext.symm, hk4, by dsimp only; omega, hclen, by dsimp only; omega⟩ (by dsimp only; omega) (okE_cons (slotI (by dsimp only; omega)) okE_nil) (okE_cons rfl (okE_cons rfl (okE_cons rfl (okE_cons rfl (okE_cons rfl okE_nil)))))
      · obtain rfl : i = m := by omega
        rw [List.take_of_length_le (by omega)] at he
        have e4 : xL s rs l = r.reverse := by rw [e3, ← he]
        refine JC.exit ?_
        refine JQ.then_exit (JQ.then_exit (JQ.block_hit (JQ.next hK8 ?_)))
        refine JC.seq fun K15 hK15 => ?_
        refine JC.region ?_
        refine J.yl (y_lbW 1 rfl Tb.ag87 Tb.sz87 (by first | (simp [length_wl]; done) | rfl) rfl rfl) rfl rfl rfl ?_
        refine J.storeW 2 rfl rfl rfl rfl rfl rfl rfl Tb.sz87 (by first | (simp [length_wl]; done) | rfl) (by first | (simp [length_wl]; done) | rfl) (by first | exact u32s1 _ | exact one_vc _ | (simp; done) | (intro u hu; simp only [List.mem_cons, List.not_mem_nil, or_false] at hu; rcases hu with rfl | rfl <;> rfl)) ?_
        refine J.yl (y_assign rfl rfl) rfl rfl rfl ?_
        refine J.nil ?_
        refine JQ.next hK15 ?_
        refine JC.ret ?_
        exact ret2 rfl (r_cellA 2 rfl rfl Tb.ag87 Tb.sz87) (r_tmp rfl) fun w hs => by rw [e1, e2, e4, ← hz]; exact Post.of_st hs (A3, k3) hk3 (.cons_cons _ (List.nil_sublist _)) fun _ _ => trivial
end Go.Proofs.YtjkfeonbioccmaaDoor
namespace Go.Proofs.YtjkfeonbioccmaaDoor
open Go Go.Sx Go.RowKit
set_option linter.unusedVariables false
set_option linter.unusedSimpArgs false
set_option maxRecDepth 100000
set_option maxHeartbeats 4000000
variable {Gl F : World → Prop}
theorem rgappend_fn (s : Int) (rs : List H) (x : H) (A : Option Addr) (n k : Nat) (hn : rs.length = n) (hN : n ≤ 1000000) (hA : ∀ w, F w → Sl w A (hcs rs.reverse)) (h64 : in64 s) :
    FnSpec Tryd.prog Gs 64 [.agg #[.int .i64 s, .slice A n k], hv x] [] F (ι := Option Addr × Nat) (fun q => (xL s rs [x]).length ≤ q.2) (fun q => .tuple #[.agg #[.int .i64 (xS s rs [x]), .slice q.1 (xL s rs [x]).length q.2], .int .i64 (xE s rs [x])]) (OwnL (xL s rs [x])) (fun _ _ => True) := by
  refine FnSpec.intro Tryd.func64 rfl Tryd.ntmps64 rfl fun X M w => ?_
  refine JC.seq fun K1 hK1 => ?_
  refine JC.region ?_
  refine J.box rfl rfl rfl rfl rfl rfl fun g2 => ?_
  refine J.box rfl rfl rfl rfl rfl rfl fun g3 => ?_
  refine J.alloc rfl rfl rfl rfl Tb.zz87 rfl fun g4 => ?_
  refine J.yl (y_assign rfl rfl) rfl rfl rfl ?_
  refine J.nil ?_
  refine JQ.next hK1 ?_
  refine JC.seq fun K2 hK2 => ?_
  refine JC.region ?_
  refine J.yl (y_lbW 2 rfl Tb.ag87 Tb.sz87 (by first | (simp [length_wl]; done) | rfl) rfl rfl) rfl rfl rfl ?_
  refine J.yl (y_lbW 1 rfl Tb.ag30 Tb.sz30 (hcl _) rfl rfl) rfl rfl rfl ?_
  refine J.bs1 rfl rfl rfl rfl rfl Tryd.underlying22 Tb.zz30 Tb.sz30 rfl (by decide) rfl (hcl _) fun g8 => ?_
  refine J.callR (Cin := []) rfl rfl rfl rfl Tb.cl66 rfl rfl (extend_fn s rs [x] A _ n k 1 1 hn rfl hN (fun w h => hA w h.1) (fun w h => by rw [hcs_one]; exact .inr ⟨rfl, At.box (ck 0 rfl h)⟩) h64) ?_
  rintro ⟨A2, k2⟩ hk2
  refine J.yl (y_extract rfl rfl rfl) rfl rfl rfl ?_
  refine J.yl (y_extract rfl rfl rfl) rfl rfl rfl ?_
  refine J.storeW 2 rfl rfl rfl rfl rfl rfl rfl Tb.sz87 (by first | (simp [length_wl]; done) | rfl) (by first | (simp [length_wl]; done) | rfl) (by first | exact u32s1 _ | exact one_vc _ | (simp; done) | (intro u hu; simp only [List.mem_cons, List.not_mem_nil, or_false] at hu; rcases hu with rfl | rfl <;> rfl)) ?_
  refine J.yl (y_assign rfl rfl) rfl rfl rfl ?_
  refine J.nil ?_
  refine JQ.next hK2 ?_
  refine JC.ret ?_
  exact ret2 rfl (r_cellA 2 rfl rfl Tb.ag87 Tb.sz87) (r_tmp rfl) fun w hs => Post.of_st hs (A2, k2) hk2 (.cons_cons _ (List.nil_sublist _)) fun _ _ => trivial
theorem rgof_fn (l : List H) (B : Option Addr) (m km : Nat) (hm : l.length = m) (hB : ∀ w, F w → Sl w B (hcs l)) :
    FnSpec Tryd.prog Gs 60 [.slice B m km] [] F (ι := Option Addr × Nat) (fun q => (xL 0 [] l).length ≤ q.2) (fun q => .tuple #[.agg #[.int .i64 (xS 0 [] l), .slice q.1 (xL 0 [] l).length q.2], .int .i64 (xE 0 [] l)]) (OwnL (xL 0 [] l)) (fun _ _ => True) := by
  refine FnSpec.intro Tryd.func60 rfl Tryd.ntmps60 rfl fun X M w => ?_
  refine JC.seq fun K1 hK1 => ?_
  refine JC.region ?_
  refine J.alloc rfl rfl rfl rfl Tb.zz87 rfl fun g2 => ?_
  refine J.yl (y_assign rfl rfl) rfl rfl rfl ?_
  refine J.nil ?_
  refine JQ.next hK1 ?_
  refine JC.seq fun K2 hK2 => ?_
  refine JC.region ?_
  refine J.yl (y_buildS (pl := [(0, 1), (1, 1)]) (zs := [.int .i64 0, .slice none 0 0]) rfl (by kernel_rfl) (by kernel_rfl) rfl fill_R0) rfl rfl rfl ?_
  refine J.yl (y_move rfl rfl) rfl rfl rfl ?_
  refine J.callR (Cin := []) rfl rfl rfl rfl Tb.cl66 rfl rfl (extend_fn 0 [] l none B 0 0 m km rfl hm (by omega) (fun w h => .inl rfl) (fun w h => hB w h.1) (by unfold in64; omega)) ?_
  rintro ⟨A2, k2⟩ hk2
  refine J.yl (y_extract rfl rfl rfl) rfl rfl rfl ?_
  refine J.yl (y_extract rfl rfl rfl) rfl rfl rfl ?_
  refine J.storeW 1 rfl rfl rfl rfl rfl rfl rfl Tb.sz87 (by first | (simp [length_wl]; done) | rfl) (by first | (simp [length_wl]; done) | rfl) (by first | exact u32s1 _ | exact one_vc _ | (simp; done) | (intro u hu; simp only [List.mem_cons, List.not_mem_nil, or_false] at hu; rcases hu with rfl | rfl <;> rfl)) ?_
  refine J.yl (y_assign rfl rfl) rfl rfl rfl ?_
  refine J.nil ?_
  refine JQ.next hK2 ?_
  refine JC.ret ?_
  exact ret2 rfl (r_cellA 1 rfl rfl Tb.ag87 Tb.sz87) (r_tmp rfl) fun w hs => Post.of_st hs (A2, k2) hk2 (.cons_cons _ (List.nil_sublist _)) fun _ _ => trivial
/-- The parts of leaves, and what is wrong with them. -/
def pBad (a : Int) (l : List H) : Prop := a < 0 ∨ 4096 < a ∨ 4096 - a < (l.length : Int)
instance (a : Int) (l : List H) : Decidable (pBad a l) := by unfold pBad; infer_instance
def pL (a : Int) (l : List H) : List H := if pBad a l then [] else cutR (pts a.toNat l.length) l
def pE (a : Int) (l : List H) : Int := if pBad a l then 2 else 0
theorem pts_len : ∀ (f a n : Nat), n ≤ f → (pts a n).length ≤ n := by
  intro f
  induction f with
  | zero =>
    intro a n h
    obtain rfl : n = 0 := by omega
    rw [pts_zero]; exact Nat.le_refl _
  | succ f ih =>
    intro a n h
    by_cases hn : n = 0
    · subst hn; rw [pts_zero]; exact Nat.le_refl _
    · have := stp_pos a n (by omega)
      have h2 := ih (a + stp a n) (n - stp a n) (by omega)
      rw [pts_step hn, List.length_cons]; omega
theorem part_fn (a : Int) (l : List H) (B : Option Addr) (m km : Nat) (hm : l.length = m) (hkm : m ≤ km) (hM : m ≤ 1000000) (hB : ∀ w, F w → Sl w B (hcs l)) (h64 : in64 a) :
    FnSpec Tryd.prog Gs 58 [.int .i64 a, .slice B m km] [] F (ι := Option Addr × Nat) (fun q => (pL a l).length ≤ q.2) (fun q => .tuple #[.slice q.1 (pL a l).length q.2, .int .i64 (pE a l)]) (OwnL (pL a l)) (fun _ _ => True) := by
  unfold in64 at h64
  have hbad : pBad a l → pL a l = [] ∧ pE a l = 2 := fun h => ⟨if_pos h, if_pos h⟩
  refine FnSpec.intro Tryd.func58 rfl Tryd.ntmps58 rfl fun X M w => ?_
  refine JC.seq fun K1 hK1 => ?_
  refine JC.region ?_
  refine J.yl (y_assign rfl rfl) rfl rfl rfl ?_
  refine J.yl (y_assign rfl rfl) rfl rfl rfl ?_
  refine J.nil ?_
  refine JQ.next hK1 ?_
  refine JC.seq fun K2 hK2 => ?_
  refine JC.seq fun K3 hK3 => ?_
  refine JC.region ?_
  refine J.yl (y_move rfl rfl) rfl rfl rfl ?_
  refine J.ylp (y_lt rfl rfl rfl) rfl rfl rfl (fun h1 => ?_) (fun h1 => ?_)
  · obtain ⟨hb1, hb2⟩ := hbad (.inl h1)
    refine J.yl (y_move rfl rfl) rfl rfl rfl ?_
    refine J.gno (b := true) rfl rfl rfl rfl rfl rfl ?_
    refine J.gno (b := true) rfl rfl rfl rfl rfl rfl ?_
    refine J.yl (y_pick rfl rfl (fun _ => rfl) (fun h => by cases h)) rfl rfl rfl ?_
    refine J.yl (y_move rfl rfl) rfl rfl rfl ?_
    refine J.gno (b := true) rfl rfl rfl rfl rfl rfl ?_
    refine J.gno (b := true) rfl rfl rfl rfl rfl rfl ?_
    refine J.gno (b := true) rfl rfl rfl rfl rfl rfl ?_
    refine J.gno (b := true) rfl rfl rfl rfl rfl rfl ?_
    refine J.gno (b := true) rfl rfl rfl rfl rfl rfl ?_
    refine J.yl (y_pick rfl rfl (fun _ => rfl) (fun h => by cases h)) rfl rfl rfl ?_
    refine J.nil ?_
    refine JQ.next hK3 ?_
    refine JC.yes rfl ?_
    refine JC.seq fun K4 hK4 => ?_
    refine JC.region ?_
    refine J.yl (y_assign rfl rfl) rfl rfl rfl ?_
    refine J.yl (y_assign rfl rfl) rfl rfl rfl ?_
    refine J.nil ?_
    refine JQ.next hK4 ?_
    refine JC.ret ?_
    refine JQ.then_ret ?_
    refine JQ.st ?_ (fun w hs => hs.nilrow 30 32)
    exact ret2 rfl (r_tmp rfl) (r_tmp rfl) fun w hs => by rw [hb1, hb2]; exact Post.of_st hs (none, 0) (Nat.le_refl _) (List.Sublist.refl _) fun _ _ => trivial
  · refine J.yl (y_move rfl rfl) rfl rfl rfl ?_
    refine J.gyes (y_move rfl rfl) rfl rfl rfl rfl rfl rfl ?_
    refine J.ypG (y_gt rfl rfl rfl) rfl rfl rfl rfl rfl rfl (fun h2 => ?_) (fun h2 => ?_)
    · obtain ⟨hb1, hb2⟩ := hbad (.inr (.inl h2))
      refine J.yl (y_pick rfl rfl (fun h => by cases h) (fun _ => rfl)) rfl rfl rfl ?_
      refine J.yl (y_move rfl rfl) rfl rfl rfl ?_
      refine J.gno (b := true) rfl rfl rfl rfl rfl rfl ?_
      refine J.gno (b := true) rfl rfl rfl rfl rfl rfl ?_
      refine J.gno (b := true) rfl rfl rfl rfl rfl rfl ?_
      refine J.gno (b := true) rfl rfl rfl rfl rfl rfl ?_
      refine J.gno (b := true) rfl rfl rfl rfl rfl rfl ?_
      refine J.yl (y_pick rfl rfl (fun _ => rfl) (fun h => by cases h)) rfl rfl rfl ?_
      refine J.nil ?_
      refine JQ.next hK3 ?_
      refine JC.yes rfl ?_
      refine JC.seq fun K5 hK5 => ?_
      refine JC.region ?_
      refine J.yl (y_assign rfl rfl) rfl rfl rfl ?_
      refine J.yl (y_assign rfl rfl) rfl rfl rfl ?_
      refine J.nil ?_
      refine JQ.next hK5 ?_
      refine JC.ret ?_
      refine JQ.then_ret ?_
      refine JQ.st ?_ (fun w hs => hs.nilrow 30 32)
      exact ret2 rfl (r_tmp rfl) (r_tmp rfl) fun w hs => by rw [hb1, hb2]; exact Post.of_st hs (none, 0) (Nat.le_refl _) (List.Sublist.refl _) fun _ _ => trivial
    · refine J.yl (y_pick rfl rfl (fun h => by cases h) (fun _ => rfl)) rfl rfl rfl ?_
      refine J.yl (y_move rfl rfl) rfl rfl rfl ?_
      refine J.gyes (y_move rfl rfl) rfl rfl rfl rfl rfl rfl ?_
      refine J.gyes (y_len rfl Tryd.underlying22 rfl) rfl rfl rfl rfl rfl rfl ?_
      refine J.gyes (y_move rfl rfl) rfl rfl rfl rfl rfl rfl ?_
      refine J.gyes (y_sub64 rfl rfl rfl (by omega)) rfl rfl rfl rfl rfl rfl ?_
      refine J.gyes (y_gt rfl rfl rfl) rfl rfl rfl rfl rfl rfl ?_
      refine J.yl (y_pick rfl rfl (fun h => by cases h) (fun _ => rfl)) rfl rfl rfl ?_
      refine J.nil ?_
      refine JQ.next hK3 ?_
      refine JC.condp rfl (fun h3 => ?_) (fun h3 => ?_)
      · obtain ⟨hb1, hb2⟩ := hbad (.inr (.inr (by omega)))
        refine JC.seq fun K6 hK6 => ?_
        refine JC.region ?_
        refine J.yl (y_assign rfl rfl) rfl rfl rfl ?_
        refine J.yl (y_assign rfl rfl) rfl rfl rfl ?_
        refine J.nil ?_
        refine JQ.next hK6 ?_
        refine JC.ret ?_
        refine JQ.then_ret ?_
        refine JQ.st ?_ (fun w hs => hs.nilrow 30 32)
        exact ret2 rfl (r_tmp rfl) (r_tmp rfl) fun w hs => by rw [hb1, hb2]; exact Post.of_st hs (none, 0) (Nat.le_refl _) (List.Sublist.refl _) fun _ _ => trivial
      · obtain ⟨a, rfl⟩ : ∃ q : Nat, a = q := ⟨a.toNat, by omega⟩
        have hok : ¬ pBad (a : Int) l := fun h => by unfold pBad at h; omega
        have e1 : pL a l = cutR (pts a m) l := by rw [pL, if_neg hok, Int.toNat_natCast, hm]
        have e2 : pE a l = 0 := if_neg hok
        refine JC.skip ?_
        refine JQ.next hK2 ?_
        refine JC.seq fun K7 hK7 => ?_
        refine JC.region ?_
        refine J.yl (y_assign rfl rfl) rfl rfl rfl ?_
        refine J.nil ?_
        refine JQ.next hK7 ?_
        refine JC.seq fun K8 hK8 => ?_
        refine JC.seq fun K9 hK9 => ?_
        refine JC.region ?_
        refine J.yl (y_move rfl rfl) rfl rfl rfl ?_
        refine J.yl (y_move rfl rfl) rfl rfl rfl ?_
        refine J.yl (y_len rfl Tryd.underlying22 rfl) rfl rfl rfl ?_
        refine J.yl (y_add64 rfl rfl rfl (by omega)) rfl rfl rfl ?_
        refine J.yl (y_assign rfl rfl) rfl rfl rfl ?_
        refine J.nil ?_
        refine JQ.next hK9 ?_
        refine JC.block ?_
        refine JC.st ?_ (fun w hs => hs.nilrow 30 32)
        refine JC.loopE (σ := Nat × List H × List H × (Option Addr × Nat) × (Option Addr × Nat)) (M := fun q => [(0, .int .i64 (q.1 : Int)), (1, .slice q.2.2.2.2.1 q.2.2.1.length q.2.2.2.2.2), (6, .slice q.2.2.2.1.1 q.2.1.length q.2.2.2.1.2)]) (kp := [(5, _), (7, _)]) (hkp := (okE_cons rfl (okE_cons rfl okE_nil))) (Dc := fun q => [.row (.slice q.2.2.2.1.1 q.2.1.length q.2.2.2.1.2) 30 32 q.2.1.length (hcs q.2.1)]) (H := fun _ => F) (Ψ := fun q => q.1 ≤ a + m ∧ q.2.2.1.length = a + m - q.1 ∧ q.2.2.1.length ≤ q.2.2.2.2.2 ∧ q.2.1.length ≤ q.2.2.2.1.2 ∧ q.2.1.length ≤ 1000000 - q.2.2.1.length ∧ cutR (pts a m) l = q.2.1 ++ cutR (pts q.1 (a + m - q.1)) q.2.2.1 ∧ ∀ w, F w → Sl w q.2.2.2.2.1 (hcs q.2.2.1)) (μ := fun q => a + m - q.1) (a, [], l, (none, 0), (B, km)) ⟨by dsimp only; omega, by dsimp only; omega, by dsimp only; omega, Nat.le_refl _, by simp, by dsimp only; rw [Nat.add_sub_cancel_left]; rfl, hB⟩ (okE_cons rfl (okE_cons (by dsimp only; rw [hm]; rfl) (okE_cons rfl okE_nil))) (fun w h => h) (fun sK10 hK10 K10 againK10 => ?_)
        obtain ⟨z, o, lr, ⟨A1, k1⟩, B1, kb⟩ := sK10
        dsimp only at hK10 againK10 ⊢
        obtain ⟨hz, hlr, hkb, hk1, ho, hcut, hB1⟩ := hK10
        refine JC.seq fun K11 hK11 => ?_
        refine JC.seq fun K12 hK12 => ?_
        refine JC.region ?_
        refine J.yl (y_move rfl rfl) rfl rfl rfl ?_
        refine J.yl (y_move rfl rfl) rfl rfl rfl ?_
        refine J.yl (y_lt rfl rfl rfl) rfl rfl rfl ?_
        refine J.nil ?_
        refine JQ.next hK12 ?_
        refine JC.condp rfl (fun h4 => ?_) (fun h4 => ?_)
        · obtain ⟨n, hn⟩ : ∃ n, a + m - z = n := ⟨_, rfl⟩
          rw [hn] at hcut hlr
          have hsp := stp_pos z n (by omega)
          have hst : cutR (pts z n) lr = root (lr.take (stp z n)) :: cutR (pts (z + stp z n) (n - stp z n)) (lr.drop (stp z n)) := by
            rw [pts_step (by omega)]; rfl
          rw [hst] at hcut
          refine JC.skip ?_
          refine JQ.next hK11 ?_
          refine JC.block ?_
          refine JC.seq fun K13 hK13 => ?_
          refine JC.region ?_
          refine J.yl (y_move rfl rfl) rfl rfl rfl ?_
          refine J.yl (y_move rfl rfl) rfl rfl rfl ?_
          refine J.callv rfl rfl rfl rfl Tb.cl129 rfl (step_fn z n z _ rfl (by omega) (by omega) (by omega) (by omega)) ?_
          refine J.yl (y_assign rfl rfl) rfl rfl rfl ?_
          refine J.nil ?_
          refine JQ.next hK13 ?_
          refine JC.seq fun K14 hK14 => ?_
          refine JC.region ?_
          refine J.yl (y_move rfl rfl) rfl rfl rfl ?_
          refine J.yl (y_move rfl rfl) rfl rfl rfl ?_
          refine J.yl (y_move rfl rfl) rfl rfl rfl ?_
          refine J.yl (y_cuttoN (stp z n) rfl Tryd.underlying22 Tb.sz30 rfl rfl rfl (by omega)) rfl rfl rfl ?_
          refine J.callv rfl rfl rfl rfl Tb.cl30 rfl (root_spec (lr.take (stp z n)) B1 (stp z n) kb (by rw [List.length_take]; omega) (by omega) (by omega) (fun w h => (hB1 w h.1).htake (stp z n))) ?_
          refine J.bs1 rfl rfl rfl rfl rfl Tryd.underlying22 Tb.zz30 Tb.sz30 rfl (by decide) rfl (hcl _) fun g37 => ?_
          refine J.append 1 rfl rfl rfl rfl rfl rfl Tryd.underlying22 Tb.zz30 Tb.sz30 Tb.by30 rfl (by decide) rfl (by rw [hcl]) (fun w hs => .inr ⟨rfl, At.box (hs.get (i := 0) rfl)⟩) (hc1 _) (by omega) (by decide) (show _ = (o ++ [root (lr.take (stp z n))]).length by simp) (show _ = hcs (o ++ [root (lr.take (stp z n))]) by rw [hcs_append, hcs_one]) fun A k hAx hkx => ?_
          refine J.drop ?_
          refine J.yl (y_assign rfl rfl) rfl rfl rfl ?_
          refine J.nil ?_
          refine JQ.next hK14 ?_
          refine JC.draw (by kernel_rfl) ?_
          refine D.take 0 (y_move rfl rfl) rfl rfl rfl rfl (by kernel_rfl) (by kernel_rfl) (by kernel_rfl) (PQ.block (PQ.next (PQ.block (PQ.next PQ.body)))) ?_
          refine D.take 1 (y_move rfl rfl) rfl rfl rfl rfl (by kernel_rfl) (by kernel_rfl) (by kernel_rfl) (PQ.block (PQ.next (PQ.block (PQ.next PQ.body)))) ?_
          refine D.take 2 (y_add64 rfl rfl rfl (by omega)) rfl rfl rfl rfl (by kernel_rfl) (by kernel_rfl) (by kernel_rfl) (PQ.block (PQ.next (PQ.block (PQ.next PQ.body)))) ?_
          refine D.take 3 (y_move rfl rfl) rfl rfl rfl rfl (by kernel_rfl) (by kernel_rfl) (by kernel_rfl) (PQ.block (PQ.next (PQ.block (PQ.next PQ.body)))) ?_
          refine D.take 4 (y_move rfl rfl) rfl rfl rfl rfl (by kernel_rfl) (by kernel_rfl) (by kernel_rfl) (PQ.block (PQ.next (PQ.block (PQ.next PQ.body)))) ?_
          refine D.take 6 (y_assign rfl rfl) rfl rfl rfl rfl (by kernel_rfl) (by kernel_rfl) (by kernel_rfl) (PQ.block (PQ.next (PQ.block (PQ.next PQ.body)))) ?_
          refine D.take 5 (y_cutfromN (stp z n) rfl Tryd.underlying22 Tb.sz30 rfl rfl rfl (by omega)) rfl rfl rfl rfl (by kernel_rfl) (by kernel_rfl) (by kernel_rfl) (PQ.block (PQ.next (PQ.block (PQ.next PQ.body)))) ?_
          refine D.take 7 (y_assign rfl rfl) rfl rfl rfl rfl (by kernel_rfl) (by kernel_rfl) (by kernel_rfl) (PQ.block (PQ.next (PQ.block (PQ.next PQ.body)))) ?_
          refine D.done (by kernel_rfl) ?_
          refine JQ.block_normal ?_
          refine againK10 (z + stp z n, o ++ [root (lr.take (stp z n))], lr.drop (stp z n), (A, k), (cutA B1 kb (stp z n) 32, kb - stp z n)) _ ⟨by dsimp only; omega, by dsimp only; rw [List.length_drop]; omega, by dsimp only; rw [List.length_drop]; omega, hkx, by dsimp only; rw [List.length_append, List.length_drop, List.length_singleton]; omega, by dsimp only; rw [hcut, List.append_assoc, show a + m - (z + stp z n) = n - stp z n by omega]; rfl, fun w h => (hB1 w h).hdrop _ _ hkb (by omega)⟩ (by dsimp only; omega) (okE_cons (slotI (by dsimp only; omega)) (okE_cons ((by dsimp only; rw [List.length_drop]; rfl)) (okE_cons rfl okE_nil))) (okE_cons rfl (okE_cons rfl okE_nil))
        · have hfin : cutR (pts a m) l = o := by
            rw [hcut, show a + m - z = 0 by omega, pts_zero]
            exact List.append_nil _
          refine JC.exit ?_
          refine JQ.then_exit (JQ.then_exit (JQ.block_hit (JQ.next hK8 ?_)))
          refine JC.seq fun K16 hK16 => ?_
          refine JC.region ?_
          refine J.yl (y_move rfl rfl) rfl rfl rfl ?_
          refine J.yl (y_assign rfl rfl) rfl rfl rfl ?_
          refine J.yl (y_assign rfl rfl) rfl rfl rfl ?_
          refine J.nil ?_
          refine JQ.next hK16 ?_
          refine JC.ret ?_
          exact ret2 rfl (r_tmp rfl) (r_tmp rfl) fun w hs => by rw [e1, e2, hfin]; exact Post.of_st hs (A1, k1) hk1 (List.Sublist.refl _) fun _ _ => trivial
end Go.Proofs.YtjkfeonbioccmaaDoor
namespace Go.Proofs.YtjkfeonbioccmaaDoor
open Go Go.Sx Go.RowKit
set_option linter.unusedVariables false
set_option linter.unusedSimpArgs false
set_option maxRecDepth 100000
set_option maxHeartbeats 4000000
variable {Gl F : World → Prop}
theorem ones_shift (m j : Nat) : ones (m * 2 ^ j) = ones m := by
  have h1 := pw_scale j 1 m
  have h2 := pw_len (m * 2 ^ j) 1 (m * 2 ^ j) (Nat.le_refl _)
  have h3 := pw_len m (1 * 2 ^ j) m (Nat.le_refl _)
  rw [← h2, h1, h3]
theorem ones_le (q : Nat) (h : q ≤ 4096) : ones q ≤ 127 := by
  have h2 := oc_ones q h
  have h3 := and_le 127 (oc q)
  rw [Nat.and_comm] at h3
  omega
/-- A range, and the parts behind it, up to a size. -/
def mOk (s : Int) (rs : List H) (z : Int) (p : List H) : Prop := vld s rs = true ∧ s ≤ z ∧ z ≤ 4096 ∧ (pts s.toNat (z.toNat - s.toNat)).length = p.length
instance (s : Int) (rs : List H) (z : Int) (p : List H) : Decidable (mOk s rs z p) := by unfold mOk; infer_instance
def mS (s : Int) (rs : List H) (z : Int) (p : List H) : Int := if mOk s rs z p then z else 0
def mL (s : Int) (rs : List H) (z : Int) (p : List H) : List H := if mOk s rs z p then (putAll (pts s.toNat (z.toNat - s.toNat)) p (s.toNat, rs)).2.reverse else []
def mE (s : Int) (rs : List H) (z : Int) (p : List H) : Int := if mOk s rs z p then 0 else 2
theorem merge_fn (s : Int) (rs : List H) (sz : Int) (p : List H) (A B : Option Addr) (n0 k m km : Nat) (hn : rs.length = n0) (hm : p.length = m) (hkm : m ≤ km) (hN : n0 ≤ 1000000) (hA : ∀ w, F w → Sl w A (hcs rs.reverse)) (hB : ∀ w, F w → Sl w B (hcs p)) :
    FnSpec Tryd.prog Gs 71 [.agg #[.int .i64 s, .slice A n0 k], .int .i64 sz, .slice B m km] [] F (ι := Option Addr × Nat) (fun q => (mL s rs sz p).length ≤ q.2) (fun q => .tuple #[.agg #[.int .i64 (mS s rs sz p), .slice q.1 (mL s rs sz p).length q.2], .int .i64 (mE s rs sz p)]) (OwnL (mL s rs sz p)) (fun _ _ => True) := by
  have hvr : vld s rs.reverse = vld s rs := vld_len _ _ _ (List.length_reverse ..)
  have hbad : ¬ mOk s rs sz p → mS s rs sz p = 0 ∧ mL s rs sz p = [] ∧ mE s rs sz p = 2 := fun h => ⟨if_neg h, if_neg h, if_neg h⟩
  refine FnSpec.intro Tryd.func71 rfl Tryd.ntmps71 rfl fun X M w => ?_
  refine JC.seq fun K1 hK1 => ?_
  refine JC.region ?_
  refine J.box rfl rfl rfl rfl rfl rfl fun g3 => ?_
  refine J.alloc rfl rfl rfl rfl Tb.zz87 rfl fun g6 => ?_
  refine J.yl (y_assign rfl rfl) rfl rfl rfl ?_
  refine J.nil ?_
  refine JQ.next hK1 ?_
  refine JC.seq fun K2 hK2 => ?_
  refine JC.seq fun K3 hK3 => ?_
  refine JC.region ?_
  refine J.yl (y_lbW 1 rfl Tb.ag87 Tb.sz87 (by first | (simp [length_wl]; done) | rfl) rfl rfl) rfl rfl rfl ?_
  refine J.callv rfl rfl rfl rfl Tb.cl67 rfl ((valid_fn s rs.reverse A n0 k (by rw [List.length_reverse]; exact hn)).to (by rw [hvr])) ?_
  refine J.ylb (y_not rfl rfl) rfl rfl rfl (fun h1 => ?_) (fun h1 => ?_)
  · have hf : vld s rs = false := by simpa using h1
    obtain ⟨e1, e2, e3⟩ := hbad (fun h => by have := h.1; rw [hf] at this; cases this)
    refine J.yl (y_move rfl rfl) rfl rfl rfl ?_
    refine J.gno (b := true) rfl rfl rfl rfl rfl rfl ?_
    refine J.gno (b := true) rfl rfl rfl rfl rfl rfl ?_
    refine J.gno (b := true) rfl rfl rfl rfl rfl rfl ?_
    refine J.gno (b := true) rfl rfl rfl rfl rfl rfl ?_
    refine J.yl (y_pick rfl rfl (fun _ => rfl) (fun h => by cases h)) rfl rfl rfl ?_
    refine J.yl (y_move rfl rfl) rfl rfl rfl ?_
    refine J.gno (b := true) rfl rfl rfl rfl rfl rfl ?_
    refine J.gno (b := true) rfl rfl rfl rfl rfl rfl ?_
    refine J.yl (y_pick rfl rfl (fun _ => rfl) (fun h => by cases h)) rfl rfl rfl ?_
    refine J.nil ?_
    refine JQ.next hK3 ?_
    refine JC.yes rfl ?_
    refine JC.seq fun K4 hK4 => ?_
    refine JC.region ?_
    refine J.yl (y_buildS (pl := [(0, 1), (1, 1)]) (zs := [.int .i64 0, .slice none 0 0]) rfl (by kernel_rfl) (by kernel_rfl) rfl fill_R0) rfl rfl rfl ?_
    refine J.storeW 0 rfl rfl rfl rfl rfl rfl rfl Tb.sz87 (by first | (simp [length_wl]; done) | rfl) (by first | (simp [length_wl]; done) | rfl) (by first | exact u32s1 _ | exact one_vc _ | (simp; done) | (intro u hu; simp only [List.mem_cons, List.not_mem_nil, or_false] at hu; rcases hu with rfl | rfl <;> rfl)) ?_
    refine J.yl (y_assign rfl rfl) rfl rfl rfl ?_
    refine J.nil ?_
    refine JQ.next hK4 ?_
    refine JC.ret ?_
    refine JQ.then_ret ?_
    refine JQ.st ?_ (fun w hs => hs.nilrow 30 32)
    exact ret2 rfl (r_cellA 1 rfl rfl Tb.ag87 Tb.sz87) (r_tmp rfl) fun w hs => by rw [e1, e2, e3]; exact Post.of_st hs (none, 0) (Nat.le_refl _) (.cons_cons _ (List.nil_sublist _)) fun _ _ => trivial
  · have ht : vld s rs = true := by simpa using h1
    have hv3 : 0 ≤ s ∧ s ≤ 4096 ∧ rs.length = ones s.toNat := of_decide_eq_true ht
    refine J.yl (y_move rfl rfl) rfl rfl rfl ?_
    refine J.gyes (y_move rfl rfl) rfl rfl rfl rfl rfl rfl ?_
    refine J.gyes (y_fb rfl Tb.fo87_0 rfl) rfl rfl rfl rfl rfl rfl ?_
    refine J.gyes (y_lb 1 rfl Tb.ag3 rfl rfl rfl) rfl rfl rfl rfl rfl rfl ?_
    refine J.ypG (y_lt rfl rfl rfl) rfl rfl rfl rfl rfl rfl (fun h2 => ?_) (fun h2 => ?_)
    · obtain ⟨e1, e2, e3⟩ := hbad (fun h => by have := h.2.1; omega)
      refine J.yl (y_pick rfl rfl (fun h => by cases h) (fun _ => rfl)) rfl rfl rfl ?_
      refine J.yl (y_move rfl rfl) rfl rfl rfl ?_
      refine J.gno (b := true) rfl rfl rfl rfl rfl rfl ?_
      refine J.gno (b := true) rfl rfl rfl rfl rfl rfl ?_
      refine J.yl (y_pick rfl rfl (fun _ => rfl) (fun h => by cases h)) rfl rfl rfl ?_
      refine J.nil ?_
      refine JQ.next hK3 ?_
      refine JC.yes rfl ?_
      refine JC.seq fun K5 hK5 => ?_
      refine JC.region ?_
      refine J.yl (y_buildS (pl := [(0, 1), (1, 1)]) (zs := [.int .i64 0, .slice none 0 0]) rfl (by kernel_rfl) (by kernel_rfl) rfl fill_R0) rfl rfl rfl ?_
      refine J.storeW 0 rfl rfl rfl rfl rfl rfl rfl Tb.sz87 (by first | (simp [length_wl]; done) | rfl) (by first | (simp [length_wl]; done) | rfl) (by first | exact u32s1 _ | exact one_vc _ | (simp; done) | (intro u hu; simp only [List.mem_cons, List.not_mem_nil, or_false] at hu; rcases hu with rfl | rfl <;> rfl)) ?_
      refine J.yl (y_assign rfl rfl) rfl rfl rfl ?_
      refine J.nil ?_
      refine JQ.next hK5 ?_
      refine JC.ret ?_
      refine JQ.then_ret ?_
      refine JQ.st ?_ (fun w hs => hs.nilrow 30 32)
      exact ret2 rfl (r_cellA 1 rfl rfl Tb.ag87 Tb.sz87) (r_tmp rfl) fun w hs => by rw [e1, e2, e3]; exact Post.of_st hs (none, 0) (Nat.le_refl _) (.cons_cons _ (List.nil_sublist _)) fun _ _ => trivial
    · refine J.yl (y_pick rfl rfl (fun h => by cases h) (fun _ => rfl)) rfl rfl rfl ?_
      refine J.yl (y_move rfl rfl) rfl rfl rfl ?_
      refine J.gyes (y_move rfl rfl) rfl rfl rfl rfl rfl rfl ?_
      refine J.gyes (y_gt rfl rfl rfl) rfl rfl rfl rfl rfl rfl ?_
      refine J.yl (y_pick rfl rfl (fun h => by cases h) (fun _ => rfl)) rfl rfl rfl ?_
      refine J.nil ?_
      refine JQ.next hK3 ?_
      refine JC.condp rfl (fun h3 => ?_) (fun h3 => ?_)
      · obtain ⟨e1, e2, e3⟩ := hbad (fun h => by have := h.2.2.1; omega)
        refine JC.seq fun K6 hK6 => ?_
        refine JC.region ?_
        refine J.yl (y_buildS (pl := [(0, 1), (1, 1)]) (zs := [.int .i64 0, .slice none 0 0]) rfl (by kernel_rfl) (by kernel_rfl) rfl fill_R0) rfl rfl rfl ?_
        refine J.storeW 0 rfl rfl rfl rfl rfl rfl rfl Tb.sz87 (by first | (simp [length_wl]; done) | rfl) (by first | (simp [length_wl]; done) | rfl) (by first | exact u32s1 _ | exact one_vc _ | (simp; done) | (intro u hu; simp only [List.mem_cons, List.not_mem_nil, or_false] at hu; rcases hu with rfl | rfl <;> rfl)) ?_
        refine J.yl (y_assign rfl rfl) rfl rfl rfl ?_
        refine J.nil ?_
        refine JQ.next hK6 ?_
        refine JC.ret ?_
        refine JQ.then_ret ?_
        refine JQ.st ?_ (fun w hs => hs.nilrow 30 32)
        exact ret2 rfl (r_cellA 1 rfl rfl Tb.ag87 Tb.sz87) (r_tmp rfl) fun w hs => by rw [e1, e2, e3]; exact Post.of_st hs (none, 0) (Nat.le_refl _) (.cons_cons _ (List.nil_sublist _)) fun _ _ => trivial
      · obtain ⟨s, rfl⟩ : ∃ q : Nat, s = q := ⟨s.toNat, by omega⟩
        obtain ⟨sz, rfl⟩ : ∃ q : Nat, sz = q := ⟨sz.toNat, by omega⟩
        rw [Int.toNat_natCast] at hv3
        have hmO : mOk (s : Int) rs (sz : Int) p ↔ (pts s (sz - s)).length = p.length := by
          unfold mOk
          rw [Int.toNat_natCast, Int.toNat_natCast]
          exact ⟨fun h => h.2.2.2, fun h => ⟨ht, by omega, by omega, h⟩⟩
        refine JC.skip ?_
        refine JQ.next hK2 ?_
        refine JC.seq fun K7 hK7 => ?_
        refine JC.region ?_
        refine J.yl (y_fb rfl Tb.fo87_1 rfl) rfl rfl rfl ?_
        refine J.yl (y_lb 1 rfl Tb.ag22 rfl rfl rfl) rfl rfl rfl ?_
        refine J.callR (Cin := []) rfl rfl rfl rfl Tb.cl135 rfl rfl (clone22_fn rs.reverse A n0 k (by rw [List.length_reverse]; exact hn) (by omega) (fun w h => hA w h.1)) ?_
        rintro ⟨A2, k2⟩ hk2
        refine J.yl (y_fb rfl Tb.fo87_1 rfl) rfl rfl rfl ?_
        refine J.store1 2 rfl rfl rfl rfl rfl rfl rfl Tb.sz22 (by first | (simp; done) | exact Nat.le_of_ble_eq_true rfl) rfl ?_
        refine J.nil ?_
        refine JQ.next hK7 ?_
        refine JC.seq fun K8 hK8 => ?_
        refine JC.block ?_
        refine JC.front 1 rfl ?_
        refine JC.front 2 rfl ?_
        refine JC.front 2 rfl ?_
        refine JC.loopE (σ := Nat × List H × List H × (Option Addr × Nat) × (Option Addr × Nat)) (M := fun q => [(2, .slice q.2.2.2.2.1 q.2.2.1.length q.2.2.2.2.2)]) (kp := [(1, _), (3, _), (6, _), (7, _)]) (hkp := (okE_cons rfl (okE_cons rfl (okE_cons rfl (okE_cons rfl okE_nil))))) (Dc := fun q => [.row (.slice q.2.2.2.1.1 q.2.1.reverse.length q.2.2.2.1.2) 30 32 q.2.1.reverse.length (hcs q.2.1.reverse), .box g3 87 [.int .i64 (q.1 : Int), .slice q.2.2.2.1.1 q.2.1.reverse.length q.2.2.2.1.2], .box g6 87 [.int .i64 0, .slice none 0 0]]) (H := fun _ => F) (Ψ := fun q => q.1 ≤ sz ∧ q.2.1.reverse.length ≤ q.2.2.2.1.2 ∧ q.2.2.1.length ≤ q.2.2.2.2.2 ∧ putAll (pts s (sz - s)) p (s, rs) = putAll (pts q.1 (sz - q.1)) q.2.2.1 (q.1, q.2.1) ∧ (pts s (sz - s)).length + q.2.2.1.length = p.length + (pts q.1 (sz - q.1)).length ∧ q.2.1.length = ones q.1 ∧ ∀ w, F w → Sl w q.2.2.2.2.1 (hcs q.2.2.1)) (μ := fun q => sz - q.1) (s, rs, p, (A2, k2), (B, km)) ⟨by dsimp only; omega, by dsimp only; rw [List.length_reverse, hn]; exact hk2, by dsimp only; omega, rfl, by dsimp only; omega, hv3.2.2, hB⟩ (okE_cons (by dsimp only; rw [hm]; rfl) okE_nil) (fun w h => by dsimp only; rw [List.length_reverse, hn]; exact h) (fun sK9 hK9 K9 againK9 => ?_)
        obtain ⟨z, r, pr, ⟨A1, k1⟩, B1, kb⟩ := sK9
        dsimp only at hK9 againK9 ⊢
        obtain ⟨hz, hk1, hkb, hput, hlen, hro, hB1⟩ := hK9
        refine JC.seq fun K10 hK10 => ?_
        refine JC.seq fun K11 hK11 => ?_
        refine JC.region ?_
        refine J.yl (y_fb rfl Tb.fo87_0 rfl) rfl rfl rfl ?_
        refine J.yl (y_lb 1 rfl Tb.ag3 rfl rfl rfl) rfl rfl rfl ?_
        refine J.yl (y_move rfl rfl) rfl rfl rfl ?_
        refine J.yl (y_lt rfl rfl rfl) rfl rfl rfl ?_
        refine J.nil ?_
        refine JQ.next hK11 ?_
        refine JC.condp rfl (fun h4 => ?_) (fun h4 => ?_)
        · refine JC.skip ?_
          refine JQ.next hK10 ?_
          refine JC.block ?_
          refine JC.seq fun K12 hK12 => ?_
          refine JC.seq fun K13 hK13 => ?_
          refine JC.region ?_
          refine J.yl (y_move rfl rfl) rfl rfl rfl ?_
          refine J.yl (y_len rfl Tryd.underlying22 rfl) rfl rfl rfl ?_
          refine J.yl (y_eq rfl rfl rfl) rfl rfl rfl ?_
          refine J.nil ?_
          refine JQ.next hK13 ?_
          refine JC.condp rfl (fun h5 => ?_) (fun h5 => ?_)
          · have hp0 : pr.length = 0 := by omega
            have hpos : 1 ≤ (pts z (sz - z)).length := by rw [pts_step (by omega)]; simp
            obtain ⟨e1, e2, e3⟩ := hbad (fun h => by have := hmO.1 h; omega)
            refine JC.seq fun K14 hK14 => ?_
            refine JC.region ?_
            refine J.yl (y_buildS (pl := [(0, 1), (1, 1)]) (zs := [.int .i64 0, .slice none 0 0]) rfl (by kernel_rfl) (by kernel_rfl) rfl fill_R0) rfl rfl rfl ?_
            refine J.storeW 2 rfl rfl rfl rfl rfl rfl rfl Tb.sz87 (by first | (simp [length_wl]; done) | rfl) (by first | (simp [length_wl]; done) | rfl) (by first | exact u32s1 _ | exact one_vc _ | (simp; done) | (intro u hu; simp only [List.mem_cons, List.not_mem_nil, or_false] at hu; rcases hu with rfl | rfl <;> rfl)) ?_
            refine J.yl (y_assign rfl rfl) rfl rfl rfl ?_
            refine J.nil ?_
            refine JQ.next hK14 ?_
            refine JC.ret ?_
            refine JQ.then_ret (JQ.block_ret (JQ.then_ret (JQ.block_ret (JQ.then_ret ?_))))
            refine JQ.st ?_ (fun w hs => hs.nilrow 30 32)
            exact ret2 rfl (r_cellA 3 rfl rfl Tb.ag87 Tb.sz87) (r_tmp rfl) fun w hs => by rw [e1, e2, e3]; exact Post.of_st hs (none, 0) (Nat.le_refl _) (.cons_cons _ (List.nil_sublist _)) fun _ _ => trivial
          · match pr, h5, hkb, hput, hlen, hB1 with
            | [], h5, _, _, _, _ => exact absurd rfl h5
            | x :: pr, h5, hkb, hput, hlen, hB1 =>
              obtain ⟨n, hnn⟩ : ∃ n, sz - z = n := ⟨_, rfl⟩
              rw [hnn] at hput hlen
              obtain ⟨js, es, hs1, hs2, hs3⟩ := stp_spec n z n (Nat.le_refl _) (by omega)
              have hkb1 : pr.length + 1 ≤ kb := hkb
              have hp2 : 0 < 2 ^ js := Nat.pow_pos (by decide)
              have hzd0 : z / 2 ^ js * 2 ^ js = z := Nat.div_mul_cancel (Nat.dvd_of_mod_eq_zero hs2)
              have hzd : (z : Int) = ((z / 2 ^ js * 2 ^ js : Nat) : Int) := by rw [hzd0]
              have hrj : r.length = ones (z / 2 ^ js) := by rw [hro, ← ones_shift (z / 2 ^ js) js, hzd0]
              have hclen := carry_len (z / 2 ^ js) (z / 2 ^ js) r x (Nat.le_refl _) hrj
              have hz2 : (z / 2 ^ js + 1) * 2 ^ js = z + 2 ^ js := by rw [Nat.succ_mul, hzd0]
              have hro2 : (carry (z / 2 ^ js) r x).length = ones (z + 2 ^ js) := by rw [hclen, ← hz2, ones_shift]
              have hb1 := ones_le z (by omega)
              have hst : pts z n = 2 ^ js :: pts (z + 2 ^ js) (n - 2 ^ js) := by rw [pts_step (by omega), es]
              have hnext : putAll (pts s (sz - s)) p (s, rs) = putAll (pts (z + 2 ^ js) (sz - (z + 2 ^ js))) pr (z + 2 ^ js, carry (z / 2 ^ js) r x) := by
                rw [hput, hst, show sz - (z + 2 ^ js) = n - 2 ^ js by omega]; rfl
              have hlen2 : (pts s (sz - s)).length + pr.length = p.length + (pts (z + 2 ^ js) (sz - (z + 2 ^ js))).length := by
                rw [hst, List.length_cons, List.length_cons] at hlen
                rw [show sz - (z + 2 ^ js) = n - 2 ^ js by omega]; omega
              refine JC.skip ?_
              refine JQ.next hK12 ?_
              refine JC.drawM [true, false, false] (by kernel_rfl) ?_
              refine D.take 1 (y_fb rfl Tb.fo87_0 rfl) rfl rfl rfl rfl (by kernel_rfl) (by kernel_rfl) (by kernel_rfl) (PQ.block (PQ.next (PQ.block (PQ.next PQ.body)))) ?_
              refine D.take 3 (y_move rfl rfl) rfl rfl rfl rfl (by kernel_rfl) (by kernel_rfl) (by kernel_rfl) (PQ.block (PQ.next (PQ.block (PQ.next PQ.body)))) ?_
              refine D.take 5 (y_move rfl rfl) rfl rfl rfl rfl (by kernel_rfl) (by kernel_rfl) (by kernel_rfl) (PQ.block (PQ.next (PQ.block (PQ.next PQ.body)))) ?_
              refine D.take 9 (y_move rfl rfl) rfl rfl rfl rfl (by kernel_rfl) (by kernel_rfl) (by kernel_rfl) (PQ.block (PQ.next (PQ.block (PQ.next PQ.body)))) ?_
              refine D.take 6 (y_hidx (l := x :: pr) 0 rfl Tryd.underlying22 Tb.sz30 rfl rfl rfl rfl (by rw [List.length_cons]; omega) (fun w hs => hB1 w hs.fact)) rfl rfl rfl rfl (by kernel_rfl) (by kernel_rfl) (by kernel_rfl) (PQ.block (PQ.next (PQ.block (PQ.next PQ.body)))) ?_
              refine D.take 7 (y_hld (l := x :: pr) x rfl Tb.ag30 Tb.sz30 rfl rfl (fun w hs => hB1 w hs.fact)) rfl rfl rfl rfl (by kernel_rfl) (by kernel_rfl) (by kernel_rfl) (PQ.block (PQ.next (PQ.block (PQ.next PQ.body)))) ?_
              refine D.take 10 (y_cutfromN 1 rfl Tryd.underlying22 Tb.sz30 rfl rfl rfl (by rw [List.length_cons]; omega)) rfl rfl rfl rfl (by kernel_rfl) (by kernel_rfl) (by kernel_rfl) (PQ.block (PQ.next (PQ.block (PQ.next PQ.body)))) ?_
              refine D.two 0 2 (by kernel_rfl) ?_ ?_
              · refine DS.ofJ rfl fun KhK15 hK15 => ?_
                refine J.yl (y_lbW 1 rfl Tb.ag87 Tb.sz87 (by first | (simp [length_wl]; done) | rfl) rfl rfl) rfl rfl rfl ?_
                refine J.nil ?_
                refine hK15 _ _ _ (fun w hs => hs.mask [true, false, false]) ?_
                refine D.ofJ 2 (by kernel_rfl) rfl fun KhK16 hK16 => ?_
                refine J.yl (y_lb 1 rfl Tb.ag3 rfl rfl rfl) rfl rfl rfl ?_
                refine J.nil ?_
                refine hK16 _ _ _ (fun w hs => hs.mask [true, false, false]) ?_
                refine D.ofJ 4 (by kernel_rfl) rfl fun KhK18 hK18 => ?_
                refine J.callv rfl rfl rfl rfl Tb.cl129 rfl ((step_fn z n z sz rfl (by omega) (by omega) (by omega) (by omega)).to (by rw [es])) ?_
                refine J.nil ?_
                refine hK18 _ _ _ (fun w hs => hs.mask [true, false, false]) ?_
                refine D.ofJ 8 (by kernel_rfl) rfl fun KhK20 hK20 => ?_
                refine J.callR (Cin := []) rfl rfl rfl rfl Tb.cl136 rfl rfl (push_fn js (z / 2 ^ js) r x z _ A1 r.reverse.length k1 hzd rfl (List.length_reverse ..).symm (by rw [List.length_reverse]; exact hrj) (by omega) (by omega) (by rw [List.length_reverse]; omega) (fun w h => ckrow 0 rfl h)) ?_
                rintro ⟨A4, k4⟩ hk4
                refine J.nil ?_
                refine hK20 _ _ _ (fun w hs => hs.mask [false, true, false, false]) ?_
                refine D.ofJ 11 (by kernel_rfl) rfl fun KhK21 hK21 => ?_
                refine J.storeW 2 rfl rfl rfl rfl rfl rfl rfl Tb.sz87 (by first | (simp [length_wl]; done) | rfl) (by first | (simp [length_wl]; done) | rfl) (by first | exact u32s1 _ | exact one_vc _ | (simp; done) | (intro u hu; simp only [List.mem_cons, List.not_mem_nil, or_false] at hu; rcases hu with rfl | rfl <;> rfl)) ?_
                refine J.nil ?_
                refine hK21 _ _ _ (fun w hs => hs.mask [false, true, false, false]) ?_
                refine D.take 12 (y_assign rfl rfl) rfl rfl rfl rfl (by kernel_rfl) (by kernel_rfl) (by kernel_rfl) (PQ.block (PQ.next (PQ.block (PQ.next PQ.body)))) ?_
                refine D.done (by kernel_rfl) ?_
                refine JQ.block_normal ?_
                refine JQ.front 3 rfl ?_
                refine JQ.front 3 rfl ?_
                refine JQ.front 2 rfl ?_
                refine JQ.keepn 3 ?_
                refine againK9 (z + 2 ^ js, carry (z / 2 ^ js) r x, pr, (A4, k4), (cutA B1 kb 1 32, kb - 1)) _ ⟨by dsimp only; omega, hk4, by dsimp only; omega, hnext, hlen2, hro2, fun w h => (hB1 w h).hdrop 1 kb hkb (by rw [List.length_cons]; omega)⟩ (by dsimp only; omega) (okE_cons rfl okE_nil) (okE_cons rfl (okE_cons rfl (okE_cons rfl (okE_cons rfl okE_nil))))
              · refine DS.ofJ rfl fun KhK22 hK22 => ?_
                refine J.yl (y_lb 1 rfl Tb.ag3 rfl rfl rfl) rfl rfl rfl ?_
                refine J.nil ?_
                refine hK22 _ _ _ (fun w hs => hs.mask [true, false, false]) ?_
                refine D.two 0 4 (by kernel_rfl) ?_ ?_
                · refine DS.ofJ rfl fun KhK23 hK23 => ?_
                  refine J.yl (y_lbW 1 rfl Tb.ag87 Tb.sz87 (by first | (simp [length_wl]; done) | rfl) rfl rfl) rfl rfl rfl ?_
                  refine J.nil ?_
                  refine hK23 _ _ _ (fun w hs => hs.mask [true, false, false]) ?_
                  refine D.ofJ 4 (by kernel_rfl) rfl fun KhK25 hK25 => ?_
                  refine J.callv rfl rfl rfl rfl Tb.cl129 rfl ((step_fn z n z sz rfl (by omega) (by omega) (by omega) (by omega)).to (by rw [es])) ?_
                  refine J.nil ?_
                  refine hK25 _ _ _ (fun w hs => hs.mask [true, false, false]) ?_
                  refine D.ofJ 8 (by kernel_rfl) rfl fun KhK27 hK27 => ?_
                  refine J.callR (Cin := []) rfl rfl rfl rfl Tb.cl136 rfl rfl (push_fn js (z / 2 ^ js) r x z _ A1 r.reverse.length k1 hzd rfl (List.length_reverse ..).symm (by rw [List.length_reverse]; exact hrj) (by omega) (by omega) (by rw [List.length_reverse]; omega) (fun w h => ckrow 0 rfl h)) ?_
                  rintro ⟨A4, k4⟩ hk4
                  refine J.nil ?_
                  refine hK27 _ _ _ (fun w hs => hs.mask [false, true, false, false]) ?_
                  refine D.ofJ 11 (by kernel_rfl) rfl fun KhK28 hK28 => ?_
                  refine J.storeW 2 rfl rfl rfl rfl rfl rfl rfl Tb.sz87 (by first | (simp [length_wl]; done) | rfl) (by first | (simp [length_wl]; done) | rfl) (by first | exact u32s1 _ | exact one_vc _ | (simp; done) | (intro u hu; simp only [List.mem_cons, List.not_mem_nil, or_false] at hu; rcases hu with rfl | rfl <;> rfl)) ?_
                  refine J.nil ?_
                  refine hK28 _ _ _ (fun w hs => hs.mask [false, true, false, false]) ?_
                  refine D.take 12 (y_assign rfl rfl) rfl rfl rfl rfl (by kernel_rfl) (by kernel_rfl) (by kernel_rfl) (PQ.block (PQ.next (PQ.block (PQ.next PQ.body)))) ?_
                  refine D.done (by kernel_rfl) ?_
                  refine JQ.block_normal ?_
                  refine JQ.front 3 rfl ?_
                  refine JQ.front 3 rfl ?_
                  refine JQ.front 2 rfl ?_
                  refine JQ.keepn 3 ?_
                  refine againK9 (z + 2 ^ js, carry (z / 2 ^ js) r x, pr, (A4, k4), (cutA B1 kb 1 32, kb - 1)) _ ⟨by dsimp only; omega, hk4, by dsimp only; omega, hnext, hlen2, hro2, fun w h => (hB1 w h).hdrop 1 kb hkb (by rw [List.length_cons]; omega)⟩ (by dsimp only; omega) (okE_cons rfl okE_nil) (okE_cons rfl (okE_cons rfl (okE_cons rfl (okE_cons rfl okE_nil))))
                · refine DS.ofJ rfl fun KhK30 hK30 => ?_
                  refine J.callv rfl rfl rfl rfl Tb.cl129 rfl ((step_fn z n z sz rfl (by omega) (by omega) (by omega) (by omega)).to (by rw [es])) ?_
                  refine J.nil ?_
                  refine hK30 _ _ _ (fun w hs => hs.mask [true, false, false]) ?_
                  refine D.ofJ 0 (by kernel_rfl) rfl fun KhK31 hK31 => ?_
                  refine J.yl (y_lbW 1 rfl Tb.ag87 Tb.sz87 (by first | (simp [length_wl]; done) | rfl) rfl rfl) rfl rfl rfl ?_
                  refine J.nil ?_
                  refine hK31 _ _ _ (fun w hs => hs.mask [true, false, false]) ?_
                  refine D.ofJ 8 (by kernel_rfl) rfl fun KhK33 hK33 => ?_
                  refine J.callR (Cin := []) rfl rfl rfl rfl Tb.cl136 rfl rfl (push_fn js (z / 2 ^ js) r x z _ A1 r.reverse.length k1 hzd rfl (List.length_reverse ..).symm (by rw [List.length_reverse]; exact hrj) (by omega) (by omega) (by rw [List.length_reverse]; omega) (fun w h => ckrow 0 rfl h)) ?_
                  rintro ⟨A4, k4⟩ hk4
                  refine J.nil ?_
                  refine hK33 _ _ _ (fun w hs => hs.mask [false, true, false, false]) ?_
                  refine D.ofJ 11 (by kernel_rfl) rfl fun KhK34 hK34 => ?_
                  refine J.storeW 2 rfl rfl rfl rfl rfl rfl rfl Tb.sz87 (by first | (simp [length_wl]; done) | rfl) (by first | (simp [length_wl]; done) | rfl) (by first | exact u32s1 _ | exact one_vc _ | (simp; done) | (intro u hu; simp only [List.mem_cons, List.not_mem_nil, or_false] at hu; rcases hu with rfl | rfl <;> rfl)) ?_
                  refine J.nil ?_
                  refine hK34 _ _ _ (fun w hs => hs.mask [false, true, false, false]) ?_
                  refine D.take 12 (y_assign rfl rfl) rfl rfl rfl rfl (by kernel_rfl) (by kernel_rfl) (by kernel_rfl) (PQ.block (PQ.next (PQ.block (PQ.next PQ.body)))) ?_
                  refine D.done (by kernel_rfl) ?_
                  refine JQ.block_normal ?_
                  refine JQ.front 3 rfl ?_
                  refine JQ.front 3 rfl ?_
                  refine JQ.front 2 rfl ?_
                  refine JQ.keepn 3 ?_
                  refine againK9 (z + 2 ^ js, carry (z / 2 ^ js) r x, pr, (A4, k4), (cutA B1 kb 1 32, kb - 1)) _ ⟨by dsimp only; omega, hk4, by dsimp only; omega, hnext, hlen2, hro2, fun w h => (hB1 w h).hdrop 1 kb hkb (by rw [List.length_cons]; omega)⟩ (by dsimp only; omega) (okE_cons rfl okE_nil) (okE_cons rfl (okE_cons rfl (okE_cons rfl (okE_cons rfl okE_nil))))
        · have e0 : z = sz := by omega
          subst e0
          rw [Nat.sub_self, pts_zero, List.length_nil] at hlen
          refine JC.exit ?_
          refine JQ.then_exit (JQ.then_exit (JQ.block_hit (JQ.next hK8 ?_)))
          refine JC.seq fun K35 hK35 => ?_
          refine JC.seq fun K36 hK36 => ?_
          refine JC.region ?_
          refine J.yl (y_move rfl rfl) rfl rfl rfl ?_
          refine J.yl (y_len rfl Tryd.underlying22 rfl) rfl rfl rfl ?_
          refine J.yl (y_gt rfl rfl rfl) rfl rfl rfl ?_
          refine J.nil ?_
          refine JQ.next hK36 ?_
          refine JC.condp rfl (fun h6 => ?_) (fun h6 => ?_)
          · obtain ⟨e1, e2, e3⟩ := hbad (fun h => by have := hmO.1 h; omega)
            refine JC.seq fun K37 hK37 => ?_
            refine JC.region ?_
            refine J.yl (y_buildS (pl := [(0, 1), (1, 1)]) (zs := [.int .i64 0, .slice none 0 0]) rfl (by kernel_rfl) (by kernel_rfl) rfl fill_R0) rfl rfl rfl ?_
            refine J.storeW 2 rfl rfl rfl rfl rfl rfl rfl Tb.sz87 (by first | (simp [length_wl]; done) | rfl) (by first | (simp [length_wl]; done) | rfl) (by first | exact u32s1 _ | exact one_vc _ | (simp; done) | (intro u hu; simp only [List.mem_cons, List.not_mem_nil, or_false] at hu; rcases hu with rfl | rfl <;> rfl)) ?_
            refine J.yl (y_assign rfl rfl) rfl rfl rfl ?_
            refine J.nil ?_
            refine JQ.next hK37 ?_
            refine JC.ret ?_
            refine JQ.then_ret ?_
            refine JQ.st ?_ (fun w hs => hs.nilrow 30 32)
            exact ret2 rfl (r_cellA 3 rfl rfl Tb.ag87 Tb.sz87) (r_tmp rfl) fun w hs => by rw [e1, e2, e3]; exact Post.of_st hs (none, 0) (Nat.le_refl _) (.cons_cons _ (List.nil_sublist _)) fun _ _ => trivial
          · have hok : mOk (s : Int) rs (z : Int) p := hmO.2 (by omega)
            have e1 : mS s rs z p = z := if_pos hok
            have e3 : mE s rs z p = 0 := if_pos hok
            have e2 : mL s rs z p = r.reverse := by
              rw [mL, if_pos hok, Int.toNat_natCast, Int.toNat_natCast, hput, Nat.sub_self, pts_zero]; rfl
            refine JC.skip ?_
            refine JQ.next hK35 ?_
            refine JC.seq fun K38 hK38 => ?_
            refine JC.region ?_
            refine J.yl (y_lbW 1 rfl Tb.ag87 Tb.sz87 (by first | (simp [length_wl]; done) | rfl) rfl rfl) rfl rfl rfl ?_
            refine J.storeW 2 rfl rfl rfl rfl rfl rfl rfl Tb.sz87 (by first | (simp [length_wl]; done) | rfl) (by first | (simp [length_wl]; done) | rfl) (by first | exact u32s1 _ | exact one_vc _ | (simp; done) | (intro u hu; simp only [List.mem_cons, List.not_mem_nil, or_false] at hu; rcases hu with rfl | rfl <;> rfl)) ?_
            refine J.yl (y_assign rfl rfl) rfl rfl rfl ?_
            refine J.nil ?_
            refine JQ.next hK38 ?_
            refine JC.ret ?_
            exact ret2 rfl (r_cellA 2 rfl rfl Tb.ag87 Tb.sz87) (r_tmp rfl) fun w hs => by rw [e1, e2, e3]; exact Post.of_st hs (A1, k1) hk1 (.cons_cons _ (List.nil_sublist _)) fun _ _ => trivial
end Go.Proofs.YtjkfeonbioccmaaDoor
