/- Speculum proofs: contracts: the root of a range. -/
import Derived.Test.YtjkfeonbioccmaaDoorMn
import Derived.Test.YtjkfeonbioccmaaDoorSxU
namespace Go.Proofs.YtjkfeonbioccmaaDoor
open Go Go.Sx Go.RowKit
set_option linter.unusedVariables false
set_option linter.unusedSimpArgs false
set_option maxRecDepth 100000
set_option maxHeartbeats 4000000
variable {Gl F : World → Prop}
theorem rootR_snoc (m : List H) (x : H) (hm : m ≠ []) : rootR (m ++ [x]) = node x (rootR m) := by
  cases m with
  | nil => exact absurd rfl hm
  | cons y r => rw [List.cons_append, rootR, rootR, List.foldl_append]; rfl
theorem rootR_drop (l : List H) (i : Nat) (x : H) (hx : l[i]? = some x) (hi : i + 1 < l.length) : rootR (l.drop i).reverse = node x (rootR (l.drop (i + 1)).reverse) := by
  obtain ⟨h, e⟩ := List.getElem?_eq_some_iff.1 hx
  rw [List.drop_eq_getElem_cons h, List.reverse_cons, e]
  refine rootR_snoc _ _ fun e => ?_
  have := congrArg List.length e
  rw [List.length_reverse, List.length_drop] at this
  simp only [List.length_nil] at this
  omega
theorem rootR_last (l : List H) (i : Nat) (x : H) (hx : l[i]? = some x) (hi : i + 1 = l.length) : rootR (l.drop i).reverse = x := by
  obtain ⟨h, e⟩ := List.getElem?_eq_some_iff.1 hx
  rw [List.drop_eq_getElem_cons h, List.reverse_cons, e, List.drop_of_length_le (by omega)]
  rfl
/-- What a range's root is, and what is wrong with it. -/
def gR (s : Int) (l : List H) : H := if vld s l = true then rootR l.reverse else H.zero
def gE (s : Int) (l : List H) : Int := if vld s l = true then 0 else 2
theorem rRoot_fn (s : Int) (l : List H) (A : Option Addr) (n k : Nat) (hn : l.length = n) (hN : n ≤ 1000000) (hA : ∀ w, F w → Sl w A (hcs l)) :
    PureFn Tryd.prog Gl 69 [.agg #[.int .i64 s, .slice A n k]] F (.tuple #[hv (gR s l), .int .i64 (gE s l)]) := by
  refine FnSpec.intro Tryd.func69 rfl Tryd.ntmps69 rfl fun X M w => ?_
  refine JC.seq fun K1 hK1 => ?_
  refine JC.region ?_
  refine J.box rfl rfl rfl rfl rfl rfl fun g1 => ?_
  refine J.alloc rfl rfl rfl rfl Tb.zz30 rfl fun g2 => ?_
  refine J.yl (y_assign rfl rfl) rfl rfl rfl ?_
  refine J.nil ?_
  refine JQ.next hK1 ?_
  refine JC.seq fun K2 hK2 => ?_
  refine JC.seq fun K3 hK3 => ?_
  refine JC.region ?_
  refine J.yl (y_lbW 1 rfl Tb.ag87 Tb.sz87 (by first | (simp [length_wl]; done) | rfl) rfl rfl) rfl rfl rfl ?_
  refine J.callv rfl rfl rfl rfl Tb.cl70 rfl (rvalid_fn s l A n k hn) ?_
  refine J.yl (y_not rfl rfl) rfl rfl rfl ?_
  refine J.nil ?_
  refine JQ.next hK3 ?_
  refine JC.cond rfl (fun h1 => ?_) (fun h1 => ?_)
  · have hf : vld s l = false := by simpa using h1
    have e1 : gR s l = H.zero := if_neg (by rw [hf]; decide)
    have e2 : gE s l = 2 := if_neg (by rw [hf]; decide)
    refine JC.seq fun K4 hK4 => ?_
    refine JC.region ?_
    refine J.yl (y_buildA (cs := hc H.zero) rfl Tryd.underlying30 Tb.zz30 Tb.sz5 rfl rfl) rfl rfl rfl ?_
    refine J.storeW 0 rfl rfl rfl rfl rfl rfl rfl Tb.sz30 (hcl _) (hcl _) (hc1 _) ?_
    refine J.yl (y_assign rfl rfl) rfl rfl rfl ?_
    refine J.nil ?_
    refine JQ.next hK4 ?_
    refine JC.ret ?_
    refine JQ.then_ret ?_
    exact ret2 rfl (r_cellA 0 rfl rfl Tb.ag30 (by rw [hcl]; exact Tb.sz30)) (r_tmp rfl) fun w hs => by rw [e1, e2]; exact Post.pure hs
  · have ht : vld s l = true := by simpa using h1
    have e1 : gR s l = rootR l.reverse := if_pos ht
    have e2 : gE s l = 0 := if_pos ht
    refine JC.skip ?_
    refine JQ.next hK2 ?_
    refine JC.seq fun K5 hK5 => ?_
    refine JC.region ?_
    refine J.yl (y_fb rfl Tb.fo87_1 rfl) rfl rfl rfl ?_
    refine J.yl (y_lb 1 rfl Tb.ag22 rfl rfl rfl) rfl rfl rfl ?_
    refine J.yl (y_len rfl Tryd.underlying22 rfl) rfl rfl rfl ?_
    refine J.yl (y_assign rfl rfl) rfl rfl rfl ?_
    refine J.nil ?_
    refine JQ.next hK5 ?_
    refine JC.seq fun K6 hK6 => ?_
    refine JC.seq fun K7 hK7 => ?_
    refine JC.region ?_
    refine J.yl (y_move rfl rfl) rfl rfl rfl ?_
    refine J.yl (y_eq rfl rfl rfl) rfl rfl rfl ?_
    refine J.nil ?_
    refine JQ.next hK7 ?_
    refine JC.condp rfl (fun h2 => ?_) (fun h2 => ?_)
    · obtain rfl : l = [] := List.eq_nil_of_length_eq_zero (by omega)
      refine JC.seq fun K8 hK8 => ?_
      refine JC.region ?_
      refine J.callv rfl rfl rfl rfl Tb.cl111 rfl (rsum_spec [] (by simp)) ?_
      refine J.storeW 0 rfl rfl rfl rfl rfl rfl rfl Tb.sz30 (hcl _) (hcl _) (hc1 _) ?_
      refine J.yl (y_assign rfl rfl) rfl rfl rfl ?_
      refine J.nil ?_
      refine JQ.next hK8 ?_
      refine JC.ret ?_
      refine JQ.then_ret ?_
      exact ret2 rfl (r_cellA 0 rfl rfl Tb.ag30 (by rw [hcl]; exact Tb.sz30)) (r_tmp rfl) fun w hs => by rw [e1, e2]; exact Post.pure hs
    · obtain ⟨last, hlast⟩ : ∃ x, l[n - 1]? = some x := ⟨_, List.getElem?_eq_getElem (show n - 1 < l.length by omega)⟩
      have hR0 := rootR_last l (n - 1) last hlast (by omega)
      refine JC.skip ?_
      refine JQ.next hK6 ?_
      refine JC.seq fun K9 hK9 => ?_
      refine JC.region ?_
      refine J.yl (y_fb rfl Tb.fo87_1 rfl) rfl rfl rfl ?_
      refine J.yl (y_lb 1 rfl Tb.ag22 rfl rfl rfl) rfl rfl rfl ?_
      refine J.yl (y_move rfl rfl) rfl rfl rfl ?_
      refine J.yl (y_sub64 rfl rfl rfl (by omega)) rfl rfl rfl ?_
      refine J.yl (y_hidx (n - 1) rfl Tryd.underlying22 Tb.sz30 rfl rfl (by omega) hn (by omega) (fun w hs => hA w hs.fact)) rfl rfl rfl ?_
      refine J.yl (y_hld last rfl Tb.ag30 Tb.sz30 rfl hlast (fun w hs => hA w hs.fact)) rfl rfl rfl ?_
      refine J.alloc rfl rfl rfl rfl Tb.zz30 rfl fun g5 => ?_
      refine J.storeW 0 rfl rfl rfl rfl rfl rfl rfl Tb.sz30 (hcl _) (hcl _) (hc1 _) ?_
      refine J.nil ?_
      refine JQ.next hK9 ?_
      refine JC.seq fun K10 hK10 => ?_
      refine JC.seq fun K11 hK11 => ?_
      refine JC.region ?_
      refine J.yl (y_move rfl rfl) rfl rfl rfl ?_
      refine J.yl (y_sub64 rfl rfl rfl (by omega)) rfl rfl rfl ?_
      refine J.yl (y_assign rfl rfl) rfl rfl rfl ?_
      refine J.nil ?_
      refine JQ.next hK11 ?_
      refine JC.block ?_
      refine JC.loopE (σ := Nat × Unit) (M := fun q => [(6, .int .i64 ((q.1 : Int) - 1))]) (kp := [(0, _), (1, _), (2, _), (3, _), (4, _), (5, _)]) (hkp := (okE_cons rfl (okE_cons rfl (okE_cons rfl (okE_cons rfl (okE_cons rfl (okE_cons rfl okE_nil))))))) (Dc := fun q => [.box g5 30 (hc (rootR (l.drop q.1).reverse)), .box g2 30 (hc H.zero), .box g1 87 [.int .i64 s, .slice A n k]]) (H := fun _ => F) (Ψ := fun q => q.1 + 1 ≤ n) (μ := fun q => q.1) (n - 1, ()) (by dsimp only; omega) (okE_cons (slotI (by dsimp only; omega)) okE_nil) (fun w h => by dsimp only; rw [hR0]; exact h) (fun sK12 hK12 K12 againK12 => ?_)
      obtain ⟨i, u⟩ := sK12
      dsimp only at hK12 againK12 ⊢
      obtain hi := hK12
      refine JC.seq fun K13 hK13 => ?_
      refine JC.seq fun K14 hK14 => ?_
      refine JC.region ?_
      refine J.yl (y_move rfl rfl) rfl rfl rfl ?_
      refine J.yl (y_ge rfl rfl rfl) rfl rfl rfl ?_
      refine J.nil ?_
      refine JQ.next hK14 ?_
      refine JC.condp rfl (fun h3 => ?_) (fun h3 => ?_)
      · obtain ⟨x, hx⟩ : ∃ x, l[i - 1]? = some x := ⟨_, List.getElem?_eq_getElem (show i - 1 < l.length by omega)⟩
        have hRi := rootR_drop l (i - 1) x hx (by omega)
        rw [show i - 1 + 1 = i by omega] at hRi
        refine JC.skip ?_
        refine JQ.next hK13 ?_
        refine JC.seq fun K15 hK15 => ?_
        refine JC.block ?_
        refine JC.draw (by kernel_rfl) ?_
        refine D.take 0 (y_fb rfl Tb.fo87_1 rfl) rfl rfl rfl rfl (by kernel_rfl) (by kernel_rfl) (by kernel_rfl) (PQ.block (PQ.next (PQ.next (PQ.block (PQ.next PQ.body))))) ?_
        refine D.take 1 (y_lb 2 rfl Tb.ag22 rfl rfl rfl) rfl rfl rfl rfl (by kernel_rfl) (by kernel_rfl) (by kernel_rfl) (PQ.block (PQ.next (PQ.next (PQ.block (PQ.next PQ.body))))) ?_
        refine D.take 2 (y_move rfl rfl) rfl rfl rfl rfl (by kernel_rfl) (by kernel_rfl) (by kernel_rfl) (PQ.block (PQ.next (PQ.next (PQ.block (PQ.next PQ.body))))) ?_
        refine D.take 5 (y_lbW 0 rfl Tb.ag30 Tb.sz30 (hcl _) rfl rfl) rfl rfl rfl rfl (by kernel_rfl) (by kernel_rfl) (by kernel_rfl) (PQ.block (PQ.next (PQ.next (PQ.block (PQ.next PQ.body))))) ?_
        refine D.take 3 (y_hidx (i - 1) rfl Tryd.underlying22 Tb.sz30 rfl rfl (by omega) hn (by omega) (fun w hs => hA w hs.fact)) rfl rfl rfl rfl (by kernel_rfl) (by kernel_rfl) (by kernel_rfl) (PQ.block (PQ.next (PQ.next (PQ.block (PQ.next PQ.body))))) ?_
        refine D.take 4 (y_hld x rfl Tb.ag30 Tb.sz30 rfl hx (fun w hs => hA w hs.fact)) rfl rfl rfl rfl (by kernel_rfl) (by kernel_rfl) (by kernel_rfl) (PQ.block (PQ.next (PQ.next (PQ.block (PQ.next PQ.body))))) ?_
        refine D.callv 6 (by kernel_rfl) rfl rfl rfl rfl rfl Tb.cl139 rfl ((rnode_spec x (rootR (l.drop i).reverse)).to (by rw [← hRi])) ?_
        refine D.storeW 7 0 (by kernel_rfl) rfl (by kernel_rfl) (by kernel_rfl) rfl rfl rfl rfl rfl rfl rfl Tb.sz30  (hcl _) (hcl _) (hc1 _) ?_
        refine JQ.block_normal (JQ.next hK15 ?_)
        refine JC.region ?_
        refine J.yl (y_move rfl rfl) rfl rfl rfl ?_
        refine J.yl (y_sub64 rfl rfl rfl (by omega)) rfl rfl rfl ?_
        refine J.yl (y_assign rfl rfl) rfl rfl rfl ?_
        refine J.nil ?_
        refine againK12 (i - 1, ()) _ (by dsimp only; omega) (by dsimp only; omega) (okE_cons (slotI (by dsimp only; omega)) okE_nil) (okE_cons rfl (okE_cons rfl (okE_cons rfl (okE_cons rfl (okE_cons rfl (okE_cons rfl okE_nil))))))
      · refine JC.exit ?_
        refine JQ.then_exit (JQ.then_exit (JQ.block_hit (JQ.next hK10 ?_)))
        refine JC.seq fun K17 hK17 => ?_
        refine JC.region ?_
        refine J.yl (y_lbW 0 rfl Tb.ag30 Tb.sz30 (hcl _) rfl rfl) rfl rfl rfl ?_
        refine J.storeW 1 rfl rfl rfl rfl rfl rfl rfl Tb.sz30 (hcl _) (hcl _) (hc1 _) ?_
        refine J.yl (y_assign rfl rfl) rfl rfl rfl ?_
        refine J.nil ?_
        refine JQ.next hK17 ?_
        refine JC.ret ?_
        have e3 : rootR (l.drop i).reverse = rootR l.reverse := by rw [show i = 0 by omega]; rfl
        exact ret2 rfl (r_cellA (cs := hc (rootR (l.drop i).reverse)) 1 rfl rfl Tb.ag30 (by rw [hcl]; exact Tb.sz30)) (r_tmp rfl) fun w hs => by rw [e1, e2, ← e3]; exact Post.pure hs
end Go.Proofs.YtjkfeonbioccmaaDoor
