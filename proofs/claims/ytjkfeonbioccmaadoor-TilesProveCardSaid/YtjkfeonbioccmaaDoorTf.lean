/- Speculum proofs: contracts: tiles that are made, and that grow. -/
import Derived.Test.YtjkfeonbioccmaaDoorTe
namespace Go.Proofs.YtjkfeonbioccmaaDoor
open Go Go.Sx Go.RowKit
set_option linter.unusedVariables false
set_option linter.unusedSimpArgs false
set_option maxRecDepth 100000
set_option maxHeartbeats 2000000
variable {Gl F : World → Prop}
/-- The tiles' chunks. -/
abbrev Tc (T m n : Nat) (es : Array MapEntry) (clock : Nat) : List Chunk := [.box T 57 [.map (some m), .int .i64 (n : Int)], .mp m (.map es clock)]
theorem fill_S1 (gm : Nat) : Instr.fill (fun i : Nat => [(0, 1), (1, 1)][i]?) (#[.map none, .int .i64 0] : Array Value) [(0, .map (some gm))] = some #[.map (some gm), .int .i64 0] := by rfl
theorem tnew_fn : FnSpec Tryd.prog Gl 41 [] [] F (ι := Nat × Nat) (fun _ => True) (fun q => .pointer (some ⟨q.1, 0, none⟩)) (fun q => Tc q.1 q.2 0 #[] 0) (fun _ _ => True) := by
  refine FnSpec.intro Tryd.func41 rfl Tryd.ntmps41 rfl fun X M w => ?_
  refine JC.seq fun K1 hK1 => ?_
  refine JC.region ?_
  refine J.yl (y_assign rfl rfl) rfl rfl rfl ?_
  refine J.nil ?_
  refine JQ.next hK1 ?_
  refine JC.seq fun K2 hK2 => ?_
  refine JC.region ?_
  refine J.makeMap rfl rfl rfl rfl fun gm => ?_
  refine J.yl (y_buildS (pl := [(0, 1), (1, 1)]) (zs := [.map none, .int .i64 0]) (cs := [.map (some gm), .int .i64 0]) rfl (by kernel_rfl) (by kernel_rfl) rfl (fill_S1 gm)) rfl rfl rfl ?_
  refine J.box rfl rfl rfl rfl rfl rfl fun g3 => ?_
  refine J.yl (y_assign rfl rfl) rfl rfl rfl ?_
  refine J.nil ?_
  refine JQ.next hK2 ?_
  refine JC.ret ?_
  exact ret1 rfl (r_tmp rfl) fun w hs => Post.of_st hs (g3, gm) trivial (List.Sublist.refl _) fun _ _ => trivial
theorem tt_of {T m n : Nat} {es : Array MapEntry} {clock : Nat} {C : List Chunk} {w : World} (i j : Nat) (hi : C[i]? = some (.box T 57 [.map (some m), .int .i64 (n : Int)])) (hj : C[j]? = some (.mp m (.map es clock))) (h : ∀ x ∈ C, x.sat w) : Tt T m n es clock w := ⟨h _ (List.mem_of_getElem? hi), h _ (List.mem_of_getElem? hj)⟩
/-- One leaf more, if there may be one. -/
def addL (l : List H) (x : H) : List H := if 4096 ≤ l.length then l else l ++ [x]
def addE (l : List H) : Int := if 4096 ≤ l.length then 60 else 0
theorem lv_le {lv ix n : Nat} (h : (ix + 1) * 2 ^ lv = n + 1) (hN : n < 4096) : lv < 13 ∧ ix ≤ n := by
  have h1 : lv < 2 ^ lv := Nat.lt_two_pow_self
  have h2 : 2 ^ lv ≤ n + 1 := by rw [← h]; exact Nat.le_mul_of_pos_left _ (by omega)
  have h3 : ix + 1 ≤ n + 1 := by rw [← h]; exact Nat.le_mul_of_pos_right _ (Nat.pow_pos (by decide))
  refine ⟨?_, by omega⟩
  exact (Nat.pow_lt_pow_iff_right (show 1 < 2 by decide)).1 (show 2 ^ lv < 2 ^ 13 by have : (2 : Nat) ^ 13 = 8192 := rfl; omega)
theorem root_last (l : List H) (x : H) (n : Nat) (hn : l.length = n) : root (seg (l ++ [x]) (n * 2 ^ 0) (n + 1)) = x := by
  have : seg (l ++ [x]) n (n + 1) = [x] := by
    unfold seg
    rw [List.take_of_length_le (by simp [hn]), ← hn, List.drop_left]
  rw [Nat.pow_zero, Nat.mul_one, this, root_one]
theorem half_step {ix lv N : Nat} (h : (ix + 1) * 2 ^ lv = N) (ho : ix % 2 = 1) : (ix / 2 + 1) * 2 ^ (lv + 1) = N := by
  rw [Nat.pow_succ, Nat.mul_comm (2 ^ lv) 2, ← Nat.mul_assoc, ← h]; congr 1; omega
theorem half_left {ix lv : Nat} (ho : ix % 2 = 1) : ix / 2 * 2 ^ (lv + 1) = (ix - 1) * 2 ^ lv := by
  rw [Nat.pow_succ, Nat.mul_comm (2 ^ lv) 2, ← Nat.mul_assoc]; congr 1; omega
theorem tadd_fn (T m n : Nat) (es : Array MapEntry) (clock : Nat) (l : List H) (x : H) (hM : Mp es (tile l)) (hn : l.length = n) :
    FnSpec Tryd.prog Gs 42 [.pointer (some ⟨T, 0, none⟩), hv x] (Tc T m n es clock) F (ι := Array MapEntry × Nat) (fun q => Mp q.1 (tile (addL l x))) (fun _ => .int .i64 (addE l)) (fun q => Tc T m (addL l x).length q.1 q.2) (fun _ _ => True) := by
  refine FnSpec.intro Tryd.func42 rfl Tryd.ntmps42 rfl fun X M w => ?_
  refine JC.seq fun K1 hK1 => ?_
  refine JC.region ?_
  refine J.box rfl rfl rfl rfl rfl rfl fun g3 => ?_
  refine J.yl (y_assign rfl rfl) rfl rfl rfl ?_
  refine J.nil ?_
  refine JQ.next hK1 ?_
  refine JC.seq fun K2 hK2 => ?_
  refine JC.block ?_
  refine JC.seq fun K3 hK3 => ?_
  refine JC.region ?_
  refine J.yl (y_move rfl rfl) rfl rfl rfl ?_
  refine J.callv rfl rfl rfl rfl Tb.cl115 rfl (none_fn T m n es clock (fun w h => tt_of 1 2 rfl rfl h.2)) ?_
  refine J.yl (y_assign rfl rfl) rfl rfl rfl ?_
  refine J.nil ?_
  refine JQ.next hK3 ?_
  refine JC.no rfl ?_
  refine JC.seq fun K4 hK4 => ?_
  refine JC.region ?_
  refine J.yl (y_move rfl rfl) rfl rfl rfl ?_
  refine J.yl (y_nilp rfl rfl) rfl rfl rfl ?_
  refine J.yl (y_fb rfl Tb.fo57_1 rfl) rfl rfl rfl ?_
  refine J.yl (y_lb 1 rfl Tb.ag3 rfl rfl rfl) rfl rfl rfl ?_
  refine J.yl (y_ge rfl rfl rfl) rfl rfl rfl ?_
  refine J.yl (y_assign rfl rfl) rfl rfl rfl ?_
  refine J.nil ?_
  refine JQ.next hK4 ?_
  refine JC.condp rfl (fun h1 => ?_) (fun h1 => ?_)
  · have hl : addL l x = l := if_pos (by omega)
    have hE : addE l = 60 := if_pos (by omega)
    refine JC.seq fun K5 hK5 => ?_
    refine JC.region ?_
    refine J.yl (y_assign rfl rfl) rfl rfl rfl ?_
    refine J.nil ?_
    refine JQ.next hK5 ?_
    refine JC.ret ?_
    refine JQ.block_ret (JQ.then_ret ?_)
    exact ret1 rfl (r_tmp rfl) fun w hs => by rw [hE]; exact Post.of_st hs (es, clock) (by rw [hl]; exact hM) (by rw [hl, hn]; exact (List.sublist_cons_self _ _)) fun _ _ => trivial
  · have hl : addL l x = l ++ [x] := if_neg (by omega)
    have hE : addE l = 0 := if_neg (by omega)
    have hroot : root (seg (l ++ [x]) (n * 2 ^ 0) (n + 1)) = x := root_last l x n hn
    refine JC.skip ?_
    refine JQ.block_normal (JQ.next hK2 ?_)
    refine JC.seq fun K6 hK6 => ?_
    refine JC.region ?_
    refine J.yl (y_move rfl rfl) rfl rfl rfl ?_
    refine J.yl (y_nilp rfl rfl) rfl rfl rfl ?_
    refine J.yl (y_fb rfl Tb.fo57_1 rfl) rfl rfl rfl ?_
    refine J.yl (y_lb 1 rfl Tb.ag3 rfl rfl rfl) rfl rfl rfl ?_
    refine J.yl (y_buildA (cs := [.int .i64 0, .int .i64 (n : Int)]) rfl Tryd.underlying38 Tb.zz38 Tb.sz3 rfl (fillK2 0 n)) rfl rfl rfl ?_
    refine J.alloc rfl rfl rfl rfl Tb.zz38 rfl fun g5 => ?_
    refine J.storeW 0 rfl rfl rfl rfl rfl rfl rfl Tb.sz38 (by first | (simp [length_wl]; done) | rfl) (by first | (simp [length_wl]; done) | rfl) (by first | exact u32s1 _ | exact one_vc _ | (simp; done) | (intro u hu; simp only [List.mem_cons, List.not_mem_nil, or_false] at hu; rcases hu with rfl | rfl <;> rfl)) ?_
    refine J.nil ?_
    refine JQ.next hK6 ?_
    refine JC.seq fun K7 hK7 => ?_
    refine JC.seq fun K8 hK8 => ?_
    refine JC.draw (by kernel_rfl) ?_
    refine D.take 0 (y_move rfl rfl) rfl rfl rfl rfl (by kernel_rfl) (by kernel_rfl) (by kernel_rfl) (PQ.next (PQ.next PQ.body)) ?_
    refine D.take 1 (y_nilp rfl rfl) rfl rfl rfl rfl (by kernel_rfl) (by kernel_rfl) (by kernel_rfl) (PQ.next (PQ.next PQ.body)) ?_
    refine D.take 2 (y_fb rfl Tb.fo57_0 rfl) rfl rfl rfl rfl (by kernel_rfl) (by kernel_rfl) (by kernel_rfl) (PQ.next (PQ.next PQ.body)) ?_
    refine D.take 3 (y_lb 2 rfl Tb.ag55 rfl rfl rfl) rfl rfl rfl rfl (by kernel_rfl) (by kernel_rfl) (by kernel_rfl) (PQ.next (PQ.next PQ.body)) ?_
    refine D.take 4 (y_lbW 0 rfl Tb.ag38 Tb.sz38 (by first | (simp [length_wl]; done) | rfl) rfl rfl) rfl rfl rfl rfl (by kernel_rfl) (by kernel_rfl) (by kernel_rfl) (PQ.next (PQ.next PQ.body)) ?_
    refine D.take 5 (y_lbW 1 rfl Tb.ag30 Tb.sz30 (hcl _) rfl rfl) rfl rfl rfl rfl (by kernel_rfl) (by kernel_rfl) (by kernel_rfl) (PQ.next (PQ.next PQ.body)) ?_
    refine D.ofJ0 6 (by kernel_rfl) rfl (by kernel_rfl) fun KhK9 hK9 => ?_
    refine J.mapUpd 3 x mkKey rfl rfl rfl Tryd.underlying55 rfl rfl rfl (a := 0) (b := (n : Int)) (by unfold in64; omega) (by unfold in64; omega) rfl hM fun es1 clock1 hM1 => ?_
    refine J.nil ?_
    refine hK9 _ _ _ ?_
    refine D0.done (by kernel_rfl) ?_
    refine JQ.next hK8 ?_
    refine JC.block ?_
    refine JC.loopE (σ := Nat × Nat × Array MapEntry × Nat) (M := fun q => []) (kp := [(0, _), (3, _), (5, _)]) (hkp := (okE_cons rfl (okE_cons rfl (okE_cons rfl okE_nil)))) (Dc := fun q => [.box g5 38 [.int .i64 (q.1 : Int), .int .i64 (q.2.1 : Int)], .box g3 30 (hc (root (seg (l ++ [x]) (q.2.1 * 2 ^ q.1) (n + 1)))), .box T 57 [.map (some m), .int .i64 (n : Int)], .mp m (.map q.2.2.1 q.2.2.2)]) (H := fun _ => F) (Ψ := fun q => (q.2.1 + 1) * 2 ^ q.1 = n + 1 ∧ Mp q.2.2.1 (tileU l x q.1)) (μ := fun q => q.2.1) (0, n, es1, clock1) ⟨by simp, hM1.to fun a b => by rw [tileU_start, hn]; rfl⟩ (okE_nil) (fun w h => by dsimp only; rw [hroot]; exact h) (fun sK10 hK10 K10 againK10 => ?_)
    obtain ⟨lv, ix, es2, clock2⟩ := sK10
    dsimp only at hK10 againK10 ⊢
    obtain ⟨hx, hM2⟩ := hK10
    refine JC.seq fun K11 hK11 => ?_
    refine JC.seq fun K12 hK12 => ?_
    refine JC.region ?_
    refine J.yl (y_ib rfl Tryd.underlying38 Tb.sz3 rfl rfl (by decide)) rfl rfl rfl ?_
    refine J.yl (y_lb 0 rfl Tb.ag3 rfl rfl rfl) rfl rfl rfl ?_
    refine J.yl (y_rem64 rfl rfl rfl (by omega)) rfl rfl rfl ?_
    refine J.yl (y_eq rfl rfl rfl) rfl rfl rfl ?_
    refine J.nil ?_
    refine JQ.next hK12 ?_
    have hx' : (ix + 1) * 2 ^ lv = l.length + 1 := by rw [hn]; exact hx
    obtain ⟨hlv, hix⟩ := lv_le hx (by omega)
    refine JC.condp rfl (fun h4 => ?_) (fun h4 => ?_)
    · have ho : ix % 2 = 1 := by omega
      have hleft : hv ((tileU l x lv (lv : Int) ((ix : Int) - 1)).getD H.zero) = hv (root (seg (l ++ [x]) ((ix - 1) * 2 ^ lv) (ix * 2 ^ lv))) := by rw [tileU_left l x lv ix hx' ho]; rfl
      have hnode : hv (node (root (seg (l ++ [x]) ((ix - 1) * 2 ^ lv) (ix * 2 ^ lv))) (root (seg (l ++ [x]) (ix * 2 ^ lv) (n + 1)))) = hv (root (seg (l ++ [x]) (ix / 2 * 2 ^ (lv + 1)) (n + 1))) := by
        have := node_step l x lv ix hx' ho
        rw [hn] at this
        rw [this, half_left ho]
      refine JC.skip ?_
      refine JQ.next hK11 ?_
      refine JC.seq fun K13 hK13 => ?_
      refine JC.block ?_
      refine JC.seq fun K14 hK14 => ?_
      refine JC.draw (by kernel_rfl) ?_
      refine D.take 0 (y_move rfl rfl) rfl rfl rfl rfl (by kernel_rfl) (by kernel_rfl) (by kernel_rfl) (PQ.next (PQ.block (PQ.next (PQ.next (PQ.block (PQ.next PQ.body)))))) ?_
      refine D.take 1 (y_nilp rfl rfl) rfl rfl rfl rfl (by kernel_rfl) (by kernel_rfl) (by kernel_rfl) (PQ.next (PQ.block (PQ.next (PQ.next (PQ.block (PQ.next PQ.body)))))) ?_
      refine D.take 2 (y_fb rfl Tb.fo57_0 rfl) rfl rfl rfl rfl (by kernel_rfl) (by kernel_rfl) (by kernel_rfl) (PQ.next (PQ.block (PQ.next (PQ.next (PQ.block (PQ.next PQ.body)))))) ?_
      refine D.take 3 (y_lb 2 rfl Tb.ag55 rfl rfl rfl) rfl rfl rfl rfl (by kernel_rfl) (by kernel_rfl) (by kernel_rfl) (PQ.next (PQ.block (PQ.next (PQ.next (PQ.block (PQ.next PQ.body)))))) ?_
      refine D.take 4 (y_ib rfl Tryd.underlying38 Tb.sz3 rfl rfl (by decide)) rfl rfl rfl rfl (by kernel_rfl) (by kernel_rfl) (by kernel_rfl) (PQ.next (PQ.block (PQ.next (PQ.next (PQ.block (PQ.next PQ.body)))))) ?_
      refine D.take 5 (y_lb 0 rfl Tb.ag3 rfl rfl rfl) rfl rfl rfl rfl (by kernel_rfl) (by kernel_rfl) (by kernel_rfl) (PQ.next (PQ.block (PQ.next (PQ.next (PQ.block (PQ.next PQ.body)))))) ?_
      refine D.take 6 (y_ib rfl Tryd.underlying38 Tb.sz3 rfl rfl (by decide)) rfl rfl rfl rfl (by kernel_rfl) (by kernel_rfl) (by kernel_rfl) (PQ.next (PQ.block (PQ.next (PQ.next (PQ.block (PQ.next PQ.body)))))) ?_
      refine D.take 7 (y_lb 0 rfl Tb.ag3 rfl rfl rfl) rfl rfl rfl rfl (by kernel_rfl) (by kernel_rfl) (by kernel_rfl) (PQ.next (PQ.block (PQ.next (PQ.next (PQ.block (PQ.next PQ.body)))))) ?_
      refine D.take 8 (y_sub64 rfl rfl rfl (by omega)) rfl rfl rfl rfl (by kernel_rfl) (by kernel_rfl) (by kernel_rfl) (PQ.next (PQ.block (PQ.next (PQ.next (PQ.block (PQ.next PQ.body)))))) ?_
      refine D.take 11 (y_lbW 1 rfl Tb.ag30 Tb.sz30 (hcl _) rfl rfl) rfl rfl rfl rfl (by kernel_rfl) (by kernel_rfl) (by kernel_rfl) (PQ.next (PQ.block (PQ.next (PQ.next (PQ.block (PQ.next PQ.body)))))) ?_
      refine D.take 9 (y_buildA (cs := [.int .i64 (lv : Int), .int .i64 ((ix : Int) - 1)]) rfl Tryd.underlying38 Tb.zz38 Tb.sz3 rfl (fillK2 _ _)) rfl rfl rfl rfl (by kernel_rfl) (by kernel_rfl) (by kernel_rfl) (PQ.next (PQ.block (PQ.next (PQ.next (PQ.block (PQ.next PQ.body)))))) ?_
      refine D.take 10 ((y_look1 (g := m) (clock := clock2) (es := es2) (a := (lv : Int)) (b := (ix : Int) - 1) mkKey rfl Tryd.underlying55 Tb.zz30 rfl rfl (by unfold in64; omega) (by unfold in64; omega) hM2 (fun w hs => (hs.get (i := 3) rfl : Chunk.sat w (.mp m (.map es2 clock2))))).to hleft) rfl rfl rfl rfl (by kernel_rfl) (by kernel_rfl) (by kernel_rfl) (PQ.next (PQ.block (PQ.next (PQ.next (PQ.block (PQ.next PQ.body)))))) ?_
      refine D.callv 12 (by kernel_rfl) rfl rfl rfl rfl rfl Tb.cl105 rfl ((node_spec _ _).to hnode) ?_
      refine D.storeW 13 1 (by kernel_rfl) rfl (by kernel_rfl) (by kernel_rfl) rfl rfl rfl rfl rfl rfl rfl Tb.sz30  (hcl _) (hcl _) (hc1 _) ?_
      refine JQ.next hK14 ?_
      refine JC.region ?_
      refine J.yl (y_ib rfl Tryd.underlying38 Tb.sz3 rfl rfl (by decide)) rfl rfl rfl ?_
      refine J.yl (y_lb 0 rfl Tb.ag3 rfl rfl rfl) rfl rfl rfl ?_
      refine J.yl (y_add64 rfl rfl rfl (by omega)) rfl rfl rfl ?_
      refine J.yl (y_ib rfl Tryd.underlying38 Tb.sz3 rfl rfl (by decide)) rfl rfl rfl ?_
      refine J.yl (y_lb 0 rfl Tb.ag3 rfl rfl rfl) rfl rfl rfl ?_
      refine J.yl (y_quo64 rfl rfl rfl (by omega)) rfl rfl rfl ?_
      refine J.yl (y_buildA (cs := [.int .i64 ((lv + 1 : Nat) : Int), .int .i64 ((ix / 2 : Nat) : Int)]) rfl Tryd.underlying38 Tb.zz38 Tb.sz3 rfl (fillK2 _ _)) rfl rfl rfl ?_
      refine J.storeW 0 rfl rfl rfl rfl rfl rfl rfl Tb.sz38 (by first | (simp [length_wl]; done) | rfl) (by first | (simp [length_wl]; done) | rfl) (by first | exact u32s1 _ | exact one_vc _ | (simp; done) | (intro u hu; simp only [List.mem_cons, List.not_mem_nil, or_false] at hu; rcases hu with rfl | rfl <;> rfl)) ?_
      refine J.nil ?_
      refine JQ.block_normal (JQ.next hK13 ?_)
      refine JC.draw (by kernel_rfl) ?_
      refine D.take 0 (y_move rfl rfl) rfl rfl rfl rfl (by kernel_rfl) (by kernel_rfl) (by kernel_rfl) (PQ.next (PQ.block (PQ.next PQ.body))) ?_
      refine D.take 1 (y_nilp rfl rfl) rfl rfl rfl rfl (by kernel_rfl) (by kernel_rfl) (by kernel_rfl) (PQ.next (PQ.block (PQ.next PQ.body))) ?_
      refine D.take 2 (y_fb rfl Tb.fo57_0 rfl) rfl rfl rfl rfl (by kernel_rfl) (by kernel_rfl) (by kernel_rfl) (PQ.next (PQ.block (PQ.next PQ.body))) ?_
      refine D.take 3 (y_lb 2 rfl Tb.ag55 rfl rfl rfl) rfl rfl rfl rfl (by kernel_rfl) (by kernel_rfl) (by kernel_rfl) (PQ.next (PQ.block (PQ.next PQ.body))) ?_
      refine D.take 4 (y_lbW 0 rfl Tb.ag38 Tb.sz38 (by first | (simp [length_wl]; done) | rfl) rfl rfl) rfl rfl rfl rfl (by kernel_rfl) (by kernel_rfl) (by kernel_rfl) (PQ.next (PQ.block (PQ.next PQ.body))) ?_
      refine D.take 5 (y_lbW 1 rfl Tb.ag30 Tb.sz30 (hcl _) rfl rfl) rfl rfl rfl rfl (by kernel_rfl) (by kernel_rfl) (by kernel_rfl) (PQ.next (PQ.block (PQ.next PQ.body))) ?_
      refine D.ofJ0 6 (by kernel_rfl) rfl (by kernel_rfl) fun KhK16 hK16 => ?_
      refine J.mapUpd 3 (root (seg (l ++ [x]) (ix / 2 * 2 ^ (lv + 1)) (n + 1))) mkKey rfl rfl rfl Tryd.underlying55 rfl rfl rfl (a := ((lv + 1 : Nat) : Int)) (b := ((ix / 2 : Nat) : Int)) (by unfold in64; omega) (by unfold in64; omega) rfl hM2 fun es3 clock3 hM3 => ?_
      refine J.nil ?_
      refine hK16 _ _ _ ?_
      refine D0.done (by kernel_rfl) ?_
      refine againK10 (lv + 1, ix / 2, es3, clock3) _ ⟨half_step hx ho, hM3.to fun a b => by rw [tileU_step l x lv ix hx' ho, ← half_left ho, hn]; rfl⟩ (by dsimp only; omega) okE_nil (okE_cons rfl (okE_cons rfl (okE_cons rfl okE_nil)))
    · have hM3 : Mp es2 (tile (addL l x)) := by
        rw [hl]; exact hM2.to fun a b => tileU_end l x lv ix hx' (by omega) a b
      have hle : (addL l x).length = n + 1 := by rw [hl]; simp [hn]
      refine JC.exit ?_
      refine JQ.then_exit (JQ.then_exit (JQ.block_hit (JQ.next hK7 ?_)))
      refine JC.seq fun K17 hK17 => ?_
      refine JC.region ?_
      refine J.yl (y_move rfl rfl) rfl rfl rfl ?_
      refine J.yl (y_nilp rfl rfl) rfl rfl rfl ?_
      refine J.yl (y_fb rfl Tb.fo57_1 rfl) rfl rfl rfl ?_
      refine J.yl (y_lb 2 rfl Tb.ag3 rfl rfl rfl) rfl rfl rfl ?_
      refine J.yl (y_add64 rfl rfl rfl (by omega)) rfl rfl rfl ?_
      refine J.yl (y_nilp rfl rfl) rfl rfl rfl ?_
      refine J.yl (y_fb rfl Tb.fo57_1 rfl) rfl rfl rfl ?_
      refine J.store1 2 rfl rfl rfl rfl rfl rfl rfl Tb.sz3 (by first | (simp; done) | exact Nat.le_of_ble_eq_true rfl) rfl ?_
      refine J.nil ?_
      refine JQ.next hK17 ?_
      refine JC.seq fun K18 hK18 => ?_
      refine JC.region ?_
      refine J.yl (y_assign rfl rfl) rfl rfl rfl ?_
      refine J.nil ?_
      refine JQ.next hK18 ?_
      refine JC.ret ?_
      exact ret1 rfl (r_tmp rfl) fun w hs => by rw [hE, hle]; exact Post.of_st hs (es2, clock2) hM3 (.cons _ (.cons _ (List.Sublist.refl _))) fun _ _ => trivial
theorem tadd_fnE (T m n : Nat) (es : Array MapEntry) (clock : Nat) (l : List H) (x : H) (hM : Mp es (tile l)) (hn : l.length = n) (l2 : List H) (n2 : Nat) (e : Int) (h : addL l x = l2) (h2 : l2.length = n2) (he : addE l = e) :
    FnSpec Tryd.prog Gs 42 [.pointer (some ⟨T, 0, none⟩), hv x] (Tc T m n es clock) F (ι := Array MapEntry × Nat) (fun q => Mp q.1 (tile l2)) (fun _ => .int .i64 e) (fun q => Tc T m n2 q.1 q.2) (fun _ _ => True) := by
  subst h h2 he; exact tadd_fn T m n es clock l x hM hn
end Go.Proofs.YtjkfeonbioccmaaDoor
