/- Speculum proofs: contracts: slices that are gone through from behind; the root of a range, by the program. -/
import Derived.Test.YtjkfeonbioccmaaDoorRo
namespace Go.Proofs.YtjkfeonbioccmaaDoor
open Go Go.Sx Go.RowKit
set_option linter.unusedVariables false
set_option linter.unusedSimpArgs false
set_option maxRecDepth 100000
set_option maxHeartbeats 4000000
variable {Gl F : World → Prop}
theorem backward_fn (A : Option Addr) (n k : Nat) : FnSpec Tryd.prog Gl 138 [.slice A n k] [] F (ι := Nat) (fun _ => True) (fun g => .func (.func 174) #[] #[.pointer (some ⟨g, 0, none⟩)])
    (fun g => [.box g 22 [.slice A n k]]) (fun _ _ => True) := by
  refine FnSpec.intro Tryd.func138 rfl Tryd.ntmps138 rfl fun X M w => ?_
  refine JC.seq fun K1 hK1 => ?_
  refine JC.region ?_
  refine J.box rfl rfl rfl rfl rfl rfl fun g1 => ?_
  refine J.yl (y_assign rfl rfl) rfl rfl rfl ?_
  refine J.nil ?_
  refine JQ.next hK1 ?_
  refine JC.seq fun K2 hK2 => ?_
  refine JC.region ?_
  refine J.yl (y_funcE rfl rfl rfl) rfl rfl rfl ?_
  refine J.yl (y_assign rfl rfl) rfl rfl rfl ?_
  refine J.nil ?_
  refine JQ.next hK2 ?_
  refine JC.ret ?_
  exact ret1 rfl (r_tmp rfl) fun w hs => Post.of_st hs g1 trivial (List.Sublist.refl _) fun _ _ => trivial
theorem back1_fn (L g : Nat) (l : List H) (A : Option Addr) (n k : Nat) (hn : l.length = n) (hN : n ≤ 1000000) (hA : ∀ w, F w → Sl w A (hcs l)) (Dc : Nat → Chunk × Chunk)
    (hy : ∀ (i : Nat) (x : H), l[i]? = some x → YldSpec Tryd.prog Gl L [.int .i64 (i : Int), hv x] [(Dc (i + 1)).1, (Dc (i + 1)).2] F (.bool true) [(Dc i).1, (Dc i).2]) :
    FnSpec Tryd.prog Gl 174 [.func (.yield L) #[] #[], .pointer (some ⟨g, 0, none⟩)] [(Dc n).1, (Dc n).2, .box g 22 [.slice A n k]] F (ι := Unit) (fun _ => True) (fun _ => .tuple #[])
      (fun _ => [(Dc 0).1, (Dc 0).2, .box g 22 [.slice A n k]]) (fun _ _ => True) := by
  refine FnSpec.intro Tryd.func174 rfl Tryd.ntmps174 rfl fun X M w => ?_
  refine JC.seq fun K1 hK1 => ?_
  refine JC.region ?_
  refine J.yl (y_lb 2 rfl Tb.ag22 rfl rfl rfl) rfl rfl rfl ?_
  refine J.yl (y_len rfl Tryd.underlying22 rfl) rfl rfl rfl ?_
  refine J.yl (y_sub64 rfl rfl rfl (by omega)) rfl rfl rfl ?_
  refine J.yl (y_assign rfl rfl) rfl rfl rfl ?_
  refine J.nil ?_
  refine JQ.next hK1 ?_
  refine JC.block ?_
  refine JC.loopE (σ := Nat × Unit) (M := fun q => [(3, .int .i64 ((q.1 : Int) - 1))]) (kp := [(0, _), (1, _)]) (hkp := (okE_cons rfl (okE_cons rfl okE_nil))) (Dc := fun q => [(Dc q.1).1, (Dc q.1).2, .box g 22 [.slice A n k]]) (H := fun _ => F) (Ψ := fun q => q.1 ≤ n) (μ := fun q => q.1) (n, ()) (by dsimp only; omega) (okE_cons rfl okE_nil) (fun w h => h) (fun sK2 hK2 K2 againK2 => ?_)
  obtain ⟨i, u⟩ := sK2
  dsimp only at hK2 againK2 ⊢
  obtain hi := hK2
  refine JC.seq fun K3 hK3 => ?_
  refine JC.seq fun K4 hK4 => ?_
  refine JC.region ?_
  refine J.yl (y_move rfl rfl) rfl rfl rfl ?_
  refine J.yl (y_ge rfl rfl rfl) rfl rfl rfl ?_
  refine J.nil ?_
  refine JQ.next hK4 ?_
  refine JC.condp rfl (fun h1 => ?_) (fun h1 => ?_)
  · obtain ⟨x, hx⟩ : ∃ x, l[i - 1]? = some x := ⟨_, List.getElem?_eq_getElem (show i - 1 < l.length by omega)⟩
    have hyi := hy (i - 1) x hx
    rw [show i - 1 + 1 = i by omega] at hyi
    refine JC.skip ?_
    refine JQ.next hK3 ?_
    refine JC.seq fun K5 hK5 => ?_
    refine JC.block ?_
    refine JC.seq fun K6 hK6 => ?_
    refine JC.regionY [_, _, _, _, _, _] rfl rfl ?_
    refine J.yl (y_move rfl rfl) rfl rfl rfl ?_
    refine J.yl (y_move rfl rfl) rfl rfl rfl ?_
    refine J.yl (y_lb 2 rfl Tb.ag22 rfl rfl rfl) rfl rfl rfl ?_
    refine J.yl (y_move rfl rfl) rfl rfl rfl ?_
    refine J.yl (y_hidx (i - 1) rfl Tryd.underlying22 Tb.sz30 rfl rfl (by omega) hn (by omega) (fun w hs => hA w hs.fact)) rfl rfl rfl ?_
    refine J.yl (y_hld x rfl Tb.ag30 Tb.sz30 rfl hx (fun w hs => hA w hs.fact)) rfl rfl rfl ?_
    refine J.nil ?_
    refine JQ.yield (Cin := [(Dc i).1, (Dc i).2]) (Cr := [.box g 22 [.slice A n k]]) (C1 := [(Dc (i - 1)).1, (Dc (i - 1)).2]) (args := [.int .i64 ((i - 1 : Nat) : Int), hv x]) rfl rfl rfl rfl rfl rfl ?_ rfl (hyi.imp fun w h => h.1) ?_
    · exact (show some [Value.int .i64 ((i : Int) - 1), hv x] = _ by rw [show ((i - 1 : Nat) : Int) = (i : Int) - 1 by omega])
    refine J.yl (y_not rfl rfl) rfl rfl rfl ?_
    refine J.nil ?_
    refine JQ.noOut ?_
    refine JQ.next hK6 ?_
    refine JC.no rfl ?_
    refine JC.skip ?_
    refine JQ.block_normal ?_
    refine JQ.next hK5 ?_
    refine JC.region ?_
    refine J.yl (y_move rfl rfl) rfl rfl rfl ?_
    refine J.yl (y_sub64 rfl rfl rfl (by omega)) rfl rfl rfl ?_
    refine J.yl (y_assign rfl rfl) rfl rfl rfl ?_
    refine J.nil ?_
    exact againK2 (i - 1, ()) _ (by dsimp only; omega) (by dsimp only; omega) (okE_cons (slotI (by dsimp only; omega)) okE_nil) (okE_cons rfl (okE_cons rfl okE_nil))
  · refine JC.exit ?_
    refine JQ.then_exit (JQ.then_exit (JQ.block_hit ?_))
    exact ret0 rfl fun w hs => by
      obtain rfl : i = 0 := by omega
      exact Post.of_st hs () trivial (List.Sublist.refl _) fun _ _ => trivial
end Go.Proofs.YtjkfeonbioccmaaDoor
