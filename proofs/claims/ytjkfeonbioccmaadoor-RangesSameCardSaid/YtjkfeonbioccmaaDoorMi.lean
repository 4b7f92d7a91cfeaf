/- Speculum proofs: contracts: the document's check of a proof. -/
/- Speculum proofs: the statements of layer 7, walked. -/
/- Speculum proofs: ProofsProof, walked: the proof of any beginning of any leaves is the document's, or refused. -/
import Derived.Test.YtjkfeonbioccmaaDoorMh
import Derived.Test.YtjkfeonbioccmaaDoorMd
namespace Go.Proofs.YtjkfeonbioccmaaDoor
open Go Go.Sx Go.RowKit
set_option linter.unusedVariables false
set_option linter.unusedSimpArgs false
set_option maxRecDepth 100000
set_option maxHeartbeats 1000000
variable {Gl F : World → Prop}

theorem says_fn : ∀ (f m n : Nat) (known : Bool) (older : H) (p : List H) (A : Option Addr) (j k : Nat) (a b : Int), 1 ≤ m → m ≤ n → n ≤ f → n ≤ 5000 → p.length = j → j ≤ k → j ≤ 1000000 → a = m → b = n → ∀ F : World → Prop, (∀ w, F w → Sl w A (hcs p)) →
    PureFn Tryd.prog Gl 112 [.int .i64 a, .int .i64 b, .bool known, hv older, .slice A j k] F (.tuple #[hv (saysF f m n known older p).1, hv (saysF f m n known older p).2.1, .bool (saysF f m n known older p).2.2]) := by
  intro f
  induction f with
  | zero => intro m n known older p A j k a b h1 h2 h3; omega
  | succ f ih =>
    intro m n known older p A j k a b h1 h2 h3 hM hj hk hJ ha hb F hA
    subst ha; subst hb
    refine FnSpec.intro Tryd.func112 rfl Tryd.ntmps112 rfl fun X M w => ?_
    refine JC.seq fun K1 hK1 => ?_
    refine JC.region ?_
    refine J.box rfl rfl rfl rfl rfl rfl fun g8 => ?_
    refine J.alloc rfl rfl rfl rfl Tb.zz30 rfl fun g10 => ?_
    refine J.alloc rfl rfl rfl rfl Tb.zz30 rfl fun g11 => ?_
    refine J.yl (y_assign rfl rfl) rfl rfl rfl ?_
    refine J.nil ?_
    refine JQ.next hK1 ?_
    refine JC.seq fun K2 hK2 => ?_
    refine JC.seq fun K3 hK3 => ?_
    refine JC.region ?_
    refine J.yl (y_move rfl rfl) rfl rfl rfl ?_
    refine J.yl (y_move rfl rfl) rfl rfl rfl ?_
    refine J.ylp (y_eq rfl rfl rfl) rfl rfl rfl (fun c1 => ?_) (fun c1 => ?_)
    · have hmn : m = n := by omega
      refine J.yl (y_move rfl rfl) rfl rfl rfl ?_
      refine J.gyes (y_move rfl rfl) rfl rfl rfl rfl rfl rfl ?_
      refine J.yl (y_pick rfl rfl (fun _ => rfl) (fun h => by cases h)) rfl rfl rfl ?_
      refine J.nil ?_
      refine JQ.next hK3 ?_
      refine JC.cond rfl (fun c2 => ?_) (fun c2 => ?_)
      · have hS : saysF (f + 1) m n known older p = (older, older, decide (p.length = 0)) := by rw [saysF, if_pos hmn, if_pos c2]
        have hd : decide (p.length = 0) = decide ((j : Int) = 0) := decide_eq_decide.2 (by omega)
        rw [hd] at hS
        refine JC.seq fun K4 hK4 => ?_
        refine JC.drawM [false, false, true] (by kernel_rfl) ?_
        refine D.take 0 (y_lbW 0 rfl Tb.ag30 Tb.sz30 (hcl _) rfl rfl) rfl rfl rfl rfl (by kernel_rfl) (by kernel_rfl) (by kernel_rfl) (PQ.next (PQ.next PQ.body)) ?_
        refine D.take 1 (y_lbW 0 rfl Tb.ag30 Tb.sz30 (hcl _) rfl rfl) rfl rfl rfl rfl (by kernel_rfl) (by kernel_rfl) (by kernel_rfl) (PQ.next (PQ.next PQ.body)) ?_
        refine D.take 2 (y_move rfl rfl) rfl rfl rfl rfl (by kernel_rfl) (by kernel_rfl) (by kernel_rfl) (PQ.next (PQ.next PQ.body)) ?_
        refine D.take 3 (y_len rfl Tryd.underlying22 rfl) rfl rfl rfl rfl (by kernel_rfl) (by kernel_rfl) (by kernel_rfl) (PQ.next (PQ.next PQ.body)) ?_
        refine D.take 4 (y_eq rfl rfl rfl) rfl rfl rfl rfl (by kernel_rfl) (by kernel_rfl) (by kernel_rfl) (PQ.next (PQ.next PQ.body)) ?_
        refine D.ofJ 5 (by kernel_rfl) rfl fun KhK5 hK5 => ?_
        refine J.storeW 1 rfl rfl rfl rfl rfl rfl rfl Tb.sz30 (hcl _) (hcl _) (hc1 _) ?_
        refine J.nil ?_
        refine hK5 _ _ _ (fun w hs => hs.mask [false, false, true]) ?_
        refine D.ofJ 6 (by kernel_rfl) rfl fun KhK6 hK6 => ?_
        refine J.storeW 0 rfl rfl rfl rfl rfl rfl rfl Tb.sz30 (hcl _) (hcl _) (hc1 _) ?_
        refine J.nil ?_
        refine hK6 _ _ _ (fun w hs => hs.mask [false, false, true]) ?_
        refine D.take 7 (y_assign rfl rfl) rfl rfl rfl rfl (by kernel_rfl) (by kernel_rfl) (by kernel_rfl) (PQ.next (PQ.next PQ.body)) ?_
        refine D.done (by kernel_rfl) ?_
        refine JQ.next hK4 ?_
        refine JC.ret ?_
        refine JQ.then_ret ?_
        exact ret3 rfl (r_cellA 1 rfl rfl Tb.ag30 (by rw [hcl]; exact Tb.sz30)) (r_cellA 0 rfl rfl Tb.ag30 (by rw [hcl]; exact Tb.sz30)) (r_tmp rfl) fun w hs => by rw [hS]; exact Post.pure hs
      · have c2' : ¬ known = true := by rw [c2]; simp
        refine JC.skip ?_
        refine JQ.next hK2 ?_
        refine JC.seq fun K7 hK7 => ?_
        refine JC.seq fun K8 hK8 => ?_
        refine JC.region ?_
        refine J.yl (y_move rfl rfl) rfl rfl rfl ?_
        refine J.yl (y_move rfl rfl) rfl rfl rfl ?_
        refine J.yl (y_eq rfl rfl rfl) rfl rfl rfl ?_
        refine J.nil ?_
        refine JQ.next hK8 ?_
        refine JC.condp rfl (fun c3 => ?_) (fun c3 => ?_)
        · refine JC.seq fun K9 hK9 => ?_
          refine JC.seq fun K10 hK10 => ?_
          refine JC.region ?_
          refine J.yl (y_move rfl rfl) rfl rfl rfl ?_
          refine J.yl (y_len rfl Tryd.underlying22 rfl) rfl rfl rfl ?_
          refine J.yl (y_ne rfl rfl rfl) rfl rfl rfl ?_
          refine J.nil ?_
          refine JQ.next hK10 ?_
          refine JC.condn rfl (fun c4 => ?_) (fun c4 => ?_)
          · have hS : saysF (f + 1) m n known older p = (older, older, false) := by rw [saysF, if_pos hmn, if_neg c2', if_pos (by omega)]
            refine JC.seq fun K11 hK11 => ?_
            refine JC.drawM [false, false, true] (by kernel_rfl) ?_
            refine D.take 0 (y_lbW 0 rfl Tb.ag30 Tb.sz30 (hcl _) rfl rfl) rfl rfl rfl rfl (by kernel_rfl) (by kernel_rfl) (by kernel_rfl) (PQ.next (PQ.next (PQ.next PQ.body))) ?_
            refine D.take 1 (y_lbW 0 rfl Tb.ag30 Tb.sz30 (hcl _) rfl rfl) rfl rfl rfl rfl (by kernel_rfl) (by kernel_rfl) (by kernel_rfl) (PQ.next (PQ.next (PQ.next PQ.body))) ?_
            refine D.ofJ 2 (by kernel_rfl) rfl fun KhK12 hK12 => ?_
            refine J.storeW 1 rfl rfl rfl rfl rfl rfl rfl Tb.sz30 (hcl _) (hcl _) (hc1 _) ?_
            refine J.nil ?_
            refine hK12 _ _ _ (fun w hs => hs.mask [false, false, true]) ?_
            refine D.ofJ 3 (by kernel_rfl) rfl fun KhK13 hK13 => ?_
            refine J.storeW 0 rfl rfl rfl rfl rfl rfl rfl Tb.sz30 (hcl _) (hcl _) (hc1 _) ?_
            refine J.nil ?_
            refine hK13 _ _ _ (fun w hs => hs.mask [false, false, true]) ?_
            refine D.take 4 (y_assign rfl rfl) rfl rfl rfl rfl (by kernel_rfl) (by kernel_rfl) (by kernel_rfl) (PQ.next (PQ.next (PQ.next PQ.body))) ?_
            refine D.done (by kernel_rfl) ?_
            refine JQ.next hK11 ?_
            refine JC.ret ?_
            refine JQ.then_ret (JQ.then_ret ?_)
            exact ret3 rfl (r_cellA 1 rfl rfl Tb.ag30 (by rw [hcl]; exact Tb.sz30)) (r_cellA 0 rfl rfl Tb.ag30 (by rw [hcl]; exact Tb.sz30)) (r_tmp rfl) fun w hs => by rw [hS]; exact Post.pure hs
          · obtain ⟨x, rfl⟩ : ∃ x, p = [x] := by
              match p, hj, c4 with
              | [x], _, _ => exact ⟨x, rfl⟩
              | [], hj, c4 => simp at hj; omega
              | x :: y :: r, hj, c4 => simp at hj; omega
            have hS : saysF (f + 1) m n known older [x] = (x, x, true) := by rw [saysF, if_pos hmn, if_neg c2', if_neg (by simp)]; rfl
            refine JC.skip ?_
            refine JQ.next hK9 ?_
            refine JC.seq fun K14 hK14 => ?_
            refine JC.drawM [false, false, false] (by kernel_rfl) ?_
            refine D.take 0 (y_move rfl rfl) rfl rfl rfl rfl (by kernel_rfl) (by kernel_rfl) (by kernel_rfl) (PQ.next (PQ.next PQ.body)) ?_
            refine D.take 3 (y_move rfl rfl) rfl rfl rfl rfl (by kernel_rfl) (by kernel_rfl) (by kernel_rfl) (PQ.next (PQ.next PQ.body)) ?_
            refine D.take 1 (y_hidx 0 rfl Tryd.underlying22 Tb.sz30 rfl rfl rfl hj (by omega) (fun w hs => hA w hs.fact)) rfl rfl rfl rfl (by kernel_rfl) (by kernel_rfl) (by kernel_rfl) (PQ.next (PQ.next PQ.body)) ?_
            refine D.take 2 (y_hld x rfl Tb.ag30 Tb.sz30 rfl rfl (fun w hs => hA w hs.fact)) rfl rfl rfl rfl (by kernel_rfl) (by kernel_rfl) (by kernel_rfl) (PQ.next (PQ.next PQ.body)) ?_
            refine D.take 4 (y_hidx 0 rfl Tryd.underlying22 Tb.sz30 rfl rfl rfl hj (by omega) (fun w hs => hA w hs.fact)) rfl rfl rfl rfl (by kernel_rfl) (by kernel_rfl) (by kernel_rfl) (PQ.next (PQ.next PQ.body)) ?_
            refine D.take 5 (y_hld x rfl Tb.ag30 Tb.sz30 rfl rfl (fun w hs => hA w hs.fact)) rfl rfl rfl rfl (by kernel_rfl) (by kernel_rfl) (by kernel_rfl) (PQ.next (PQ.next PQ.body)) ?_
            refine D.ofJ 6 (by kernel_rfl) rfl fun KhK15 hK15 => ?_
            refine J.storeW 1 rfl rfl rfl rfl rfl rfl rfl Tb.sz30 (hcl _) (hcl _) (hc1 _) ?_
            refine J.nil ?_
            refine hK15 _ _ _ (fun w hs => hs.mask [false, false, false]) ?_
            refine D.ofJ 7 (by kernel_rfl) rfl fun KhK16 hK16 => ?_
            refine J.storeW 0 rfl rfl rfl rfl rfl rfl rfl Tb.sz30 (hcl _) (hcl _) (hc1 _) ?_
            refine J.nil ?_
            refine hK16 _ _ _ (fun w hs => hs.mask [false, false, false]) ?_
            refine D.take 8 (y_assign rfl rfl) rfl rfl rfl rfl (by kernel_rfl) (by kernel_rfl) (by kernel_rfl) (PQ.next (PQ.next PQ.body)) ?_
            refine D.done (by kernel_rfl) ?_
            refine JQ.next hK14 ?_
            refine JC.ret ?_
            refine JQ.then_ret ?_
            exact ret3 rfl (r_cellA 1 rfl rfl Tb.ag30 (by rw [hcl]; exact Tb.sz30)) (r_cellA 0 rfl rfl Tb.ag30 (by rw [hcl]; exact Tb.sz30)) (r_tmp rfl) fun w hs => by rw [hS]; exact Post.pure hs
        · omega
    · refine J.yl (y_move rfl rfl) rfl rfl rfl ?_
      refine J.gno (b := false) rfl rfl rfl rfl rfl rfl ?_
      refine J.yl (y_pick rfl rfl (fun h => by cases h) (fun _ => rfl)) rfl rfl rfl ?_
      refine J.nil ?_
      refine JQ.next hK3 ?_
      refine JC.no rfl ?_
      refine JC.skip ?_
      refine JQ.next hK2 ?_
      refine JC.seq fun K17 hK17 => ?_
      refine JC.seq fun K18 hK18 => ?_
      refine JC.region ?_
      refine J.yl (y_move rfl rfl) rfl rfl rfl ?_
      refine J.yl (y_move rfl rfl) rfl rfl rfl ?_
      refine J.yl (y_eq rfl rfl rfl) rfl rfl rfl ?_
      refine J.nil ?_
      refine JQ.next hK18 ?_
      refine JC.condp rfl (fun c3 => ?_) (fun c3 => ?_)
      · omega
      · have hmn : ¬ m = n := by omega
        have hsp := split_spec (show 2 ≤ n by omega)
        refine JC.skip ?_
        refine JQ.next hK17 ?_
        refine JC.seq fun K19 hK19 => ?_
        refine JC.seq fun K20 hK20 => ?_
        refine JC.region ?_
        refine J.yl (y_move rfl rfl) rfl rfl rfl ?_
        refine J.yl (y_len rfl Tryd.underlying22 rfl) rfl rfl rfl ?_
        refine J.yl (y_eq rfl rfl rfl) rfl rfl rfl ?_
        refine J.nil ?_
        refine JQ.next hK20 ?_
        refine JC.condp rfl (fun c4 => ?_) (fun c4 => ?_)
        · have hS : saysF (f + 1) m n known older p = (older, older, false) := by rw [saysF, if_neg hmn, if_pos (by omega)]
          refine JC.seq fun K21 hK21 => ?_
          refine JC.drawM [false, false, true] (by kernel_rfl) ?_
          refine D.take 0 (y_lbW 0 rfl Tb.ag30 Tb.sz30 (hcl _) rfl rfl) rfl rfl rfl rfl (by kernel_rfl) (by kernel_rfl) (by kernel_rfl) (PQ.next (PQ.next PQ.body)) ?_
          refine D.take 1 (y_lbW 0 rfl Tb.ag30 Tb.sz30 (hcl _) rfl rfl) rfl rfl rfl rfl (by kernel_rfl) (by kernel_rfl) (by kernel_rfl) (PQ.next (PQ.next PQ.body)) ?_
          refine D.ofJ 2 (by kernel_rfl) rfl fun KhK22 hK22 => ?_
          refine J.storeW 1 rfl rfl rfl rfl rfl rfl rfl Tb.sz30 (hcl _) (hcl _) (hc1 _) ?_
          refine J.nil ?_
          refine hK22 _ _ _ (fun w hs => hs.mask [false, false, true]) ?_
          refine D.ofJ 3 (by kernel_rfl) rfl fun KhK23 hK23 => ?_
          refine J.storeW 0 rfl rfl rfl rfl rfl rfl rfl Tb.sz30 (hcl _) (hcl _) (hc1 _) ?_
          refine J.nil ?_
          refine hK23 _ _ _ (fun w hs => hs.mask [false, false, true]) ?_
          refine D.take 4 (y_assign rfl rfl) rfl rfl rfl rfl (by kernel_rfl) (by kernel_rfl) (by kernel_rfl) (PQ.next (PQ.next PQ.body)) ?_
          refine D.done (by kernel_rfl) ?_
          refine JQ.next hK21 ?_
          refine JC.ret ?_
          refine JQ.then_ret ?_
          exact ret3 rfl (r_cellA 1 rfl rfl Tb.ag30 (by rw [hcl]; exact Tb.sz30)) (r_cellA 0 rfl rfl Tb.ag30 (by rw [hcl]; exact Tb.sz30)) (r_tmp rfl) fun w hs => by rw [hS]; exact Post.pure hs
        · refine JC.skip ?_
          refine JQ.next hK19 ?_
          refine JC.seq fun K24 hK24 => ?_
          have hp0 : ¬ p.length = 0 := by omega
          obtain ⟨last, hlast⟩ : ∃ x, p[j - 1]? = some x := ⟨_, List.getElem?_eq_getElem (show j - 1 < p.length by omega)⟩
          have hgl : p.getD (p.length - 1) H.zero = last := by rw [List.getD_eq_getElem?_getD, hj, hlast]; rfl
          refine JC.cutE (σ := Nat × Unit) (M := fun q => [(13, .int .i64 (split n : Int)), (14, .pointer (some ⟨q.1, 0, none⟩))]) (kp := [(0, _), (1, _), (2, _), (4, _), (8, _), (10, _), (11, _)]) (hkp := (okE_cons rfl (okE_cons rfl (okE_cons rfl (okE_cons rfl (okE_cons rfl (okE_cons rfl (okE_cons rfl okE_nil)))))))) (Dc := fun q => [.box q.1 30 (hc last), .box g11 30 (hc H.zero), .box g10 30 (hc H.zero), .box g8 30 (hc older)]) (H := fun _ => F) (Ψ := fun _ => True) (fun K25 againK25 => ?_) (fun sK25 hK25 => ?_)
          refine JC.drawM [false, false, false] (by kernel_rfl) ?_
          refine D.take 0 (y_move rfl rfl) rfl rfl rfl rfl (by kernel_rfl) (by kernel_rfl) (by kernel_rfl) (PQ.next (PQ.next PQ.body)) ?_
          refine D.take 2 (y_move rfl rfl) rfl rfl rfl rfl (by kernel_rfl) (by kernel_rfl) (by kernel_rfl) (PQ.next (PQ.next PQ.body)) ?_
          refine D.take 3 (y_move rfl rfl) rfl rfl rfl rfl (by kernel_rfl) (by kernel_rfl) (by kernel_rfl) (PQ.next (PQ.next PQ.body)) ?_
          refine D.take 4 (y_len rfl Tryd.underlying22 rfl) rfl rfl rfl rfl (by kernel_rfl) (by kernel_rfl) (by kernel_rfl) (PQ.next (PQ.next PQ.body)) ?_
          refine D.take 5 (y_sub64 rfl rfl rfl (by omega)) rfl rfl rfl rfl (by kernel_rfl) (by kernel_rfl) (by kernel_rfl) (PQ.next (PQ.next PQ.body)) ?_
          · refine D.take 6 (y_hidx (j - 1) rfl Tryd.underlying22 Tb.sz30 rfl rfl (by omega) hj (by omega) (fun w hs => hA w hs.fact)) rfl rfl rfl rfl (by kernel_rfl) (by kernel_rfl) (by kernel_rfl) (PQ.next (PQ.next PQ.body)) ?_
            refine D.take 7 (y_hld last rfl Tb.ag30 Tb.sz30 rfl hlast (fun w hs => hA w hs.fact)) rfl rfl rfl rfl (by kernel_rfl) (by kernel_rfl) (by kernel_rfl) (PQ.next (PQ.next PQ.body)) ?_
            refine D.two 1 8 (by kernel_rfl) ?_ ?_
            · refine DS.ofJ rfl fun KhK27 hK27 => ?_
              refine J.callv rfl rfl rfl rfl Tb.cl145 rfl (rsplit_fn n _ rfl (by omega)) ?_
              refine J.nil ?_
              refine hK27 _ _ _ (fun w hs => hs.mask [false, false, false]) ?_
              refine D.ofJ 8 (by kernel_rfl) rfl fun KhK28 hK28 => ?_
              refine J.alloc rfl rfl rfl rfl Tb.zz30 rfl fun g14 => ?_
              refine J.nil ?_
              refine hK28 _ _ _ (fun w hs => hs.mask [false, false, false, false]) ?_
              refine D.take 9 (y_assign rfl rfl) rfl rfl rfl rfl (by kernel_rfl) (by kernel_rfl) (by kernel_rfl) (PQ.next (PQ.next PQ.body)) ?_
              refine D.ofJ 10 (by kernel_rfl) rfl fun KhK29 hK29 => ?_
              refine J.storeW 0 rfl rfl rfl rfl rfl rfl rfl Tb.sz30 (hcl _) (hcl _) (hc1 _) ?_
              refine J.nil ?_
              refine hK29 _ _ _ (fun w hs => hs.mask [false, false, false, false]) ?_
              refine D.done (by kernel_rfl) ?_
              refine againK25 (g14, ()) _ trivial (okE_cons rfl (okE_cons rfl okE_nil)) (okE_cons rfl (okE_cons rfl (okE_cons rfl (okE_cons rfl (okE_cons rfl (okE_cons rfl (okE_cons rfl okE_nil)))))))
            · refine DS.ofJ rfl fun KhK30 hK30 => ?_
              refine J.alloc rfl rfl rfl rfl Tb.zz30 rfl fun g14 => ?_
              refine J.nil ?_
              refine hK30 _ _ _ (fun w hs => hs.mask [false, false, false, false]) ?_
              refine D.ofJ 1 (by kernel_rfl) rfl fun KhK32 hK32 => ?_
              refine J.callv rfl rfl rfl rfl Tb.cl145 rfl (rsplit_fn n _ rfl (by omega)) ?_
              refine J.nil ?_
              refine hK32 _ _ _ (fun w hs => hs.mask [false, false, false, false]) ?_
              refine D.take 9 (y_assign rfl rfl) rfl rfl rfl rfl (by kernel_rfl) (by kernel_rfl) (by kernel_rfl) (PQ.next (PQ.next PQ.body)) ?_
              refine D.ofJ 10 (by kernel_rfl) rfl fun KhK33 hK33 => ?_
              refine J.storeW 0 rfl rfl rfl rfl rfl rfl rfl Tb.sz30 (hcl _) (hcl _) (hc1 _) ?_
              refine J.nil ?_
              refine hK33 _ _ _ (fun w hs => hs.mask [false, false, false, false]) ?_
              refine D.done (by kernel_rfl) ?_
              refine againK25 (g14, ()) _ trivial (okE_cons rfl (okE_cons rfl okE_nil)) (okE_cons rfl (okE_cons rfl (okE_cons rfl (okE_cons rfl (okE_cons rfl (okE_cons rfl (okE_cons rfl okE_nil)))))))
          · obtain ⟨g14, u⟩ := sK25
            dsimp only at hK25 ⊢
            obtain _ := hK25
            refine JQ.next hK24 ?_
            refine JC.seq fun K34 hK34 => ?_
            refine JC.region ?_
            refine J.yl (y_move rfl rfl) rfl rfl rfl ?_
            refine J.yl (y_move rfl rfl) rfl rfl rfl ?_
            refine J.yl (y_len rfl Tryd.underlying22 rfl) rfl rfl rfl ?_
            refine J.yl (y_sub64 rfl rfl rfl (by omega)) rfl rfl rfl ?_
            have hA2 : ∀ w, F w → Sl w A (hcs (p.take (j - 1))) := fun w h => (hA w h).htake _
            have hl2 : (p.take (j - 1)).length = j - 1 := by rw [List.length_take]; omega
            refine J.yl (y_cuttoN (j - 1) rfl Tryd.underlying22 Tb.sz30 rfl rfl (by omega) (by omega)) rfl rfl rfl ?_
            refine J.yl (y_assign rfl rfl) rfl rfl rfl ?_
            refine J.nil ?_
            refine JQ.next hK34 ?_
            refine JC.seq fun K35 hK35 => ?_
            refine JC.seq fun K36 hK36 => ?_
            refine JC.region ?_
            refine J.yl (y_move rfl rfl) rfl rfl rfl ?_
            refine J.yl (y_move rfl rfl) rfl rfl rfl ?_
            refine J.yl (y_le rfl rfl rfl) rfl rfl rfl ?_
            refine J.nil ?_
            refine JQ.next hK36 ?_
            refine JC.condp rfl (fun c5 => ?_) (fun c5 => ?_)
            · have hS : saysF (f + 1) m n known older p = ((saysF f m (split n) known older (p.take (j - 1))).1, node (saysF f m (split n) known older (p.take (j - 1))).2.1 last, (saysF f m (split n) known older (p.take (j - 1))).2.2) := by
                rw [saysF, if_neg hmn, if_neg hp0, if_pos (by omega), hgl, hj]
              refine JC.seq fun K37 hK37 => ?_
              refine JC.region ?_
              refine J.yl (y_move rfl rfl) rfl rfl rfl ?_
              refine J.yl (y_move rfl rfl) rfl rfl rfl ?_
              refine J.yl (y_move rfl rfl) rfl rfl rfl ?_
              refine J.yl (y_lbW 3 rfl Tb.ag30 Tb.sz30 (hcl _) rfl rfl) rfl rfl rfl ?_
              refine J.yl (y_move rfl rfl) rfl rfl rfl ?_
              refine J.callv rfl rfl rfl rfl Tb.cl112 rfl (ih m (split n) known older (p.take (j - 1)) A (j - 1) k _ _ h1 (by omega) (by omega) (by omega) hl2 (by omega) (by omega) rfl rfl _ (fun w h => hA2 w h.1)) ?_
              refine J.yl (y_move rfl rfl) rfl rfl rfl ?_
              refine J.yl (y_extract rfl rfl rfl) rfl rfl rfl ?_
              refine J.yl (y_extract rfl rfl rfl) rfl rfl rfl ?_
              refine J.yl (y_extract rfl rfl rfl) rfl rfl rfl ?_
              refine J.alloc rfl rfl rfl rfl Tb.zz30 rfl fun g16 => ?_
              refine J.alloc rfl rfl rfl rfl Tb.zz30 rfl fun g17 => ?_
              refine J.storeW 1 rfl rfl rfl rfl rfl rfl rfl Tb.sz30 (hcl _) (hcl _) (hc1 _) ?_
              refine J.storeW 0 rfl rfl rfl rfl rfl rfl rfl Tb.sz30 (hcl _) (hcl _) (hc1 _) ?_
              refine J.yl (y_assign rfl rfl) rfl rfl rfl ?_
              refine J.nil ?_
              refine JQ.next hK37 ?_
              refine JC.seq fun K38 hK38 => ?_
              refine JC.drawM [true, true, true, false, false, false] (by kernel_rfl) ?_
              refine D.take 0 (y_lbW 1 rfl Tb.ag30 Tb.sz30 (hcl _) rfl rfl) rfl rfl rfl rfl (by kernel_rfl) (by kernel_rfl) (by kernel_rfl) (PQ.next (PQ.next PQ.body)) ?_
              refine D.take 1 (y_lbW 0 rfl Tb.ag30 Tb.sz30 (hcl _) rfl rfl) rfl rfl rfl rfl (by kernel_rfl) (by kernel_rfl) (by kernel_rfl) (PQ.next (PQ.next PQ.body)) ?_
              refine D.take 2 (y_lbW 2 rfl Tb.ag30 Tb.sz30 (hcl _) rfl rfl) rfl rfl rfl rfl (by kernel_rfl) (by kernel_rfl) (by kernel_rfl) (PQ.next (PQ.next PQ.body)) ?_
              refine D.take 4 (y_move rfl rfl) rfl rfl rfl rfl (by kernel_rfl) (by kernel_rfl) (by kernel_rfl) (PQ.next (PQ.next PQ.body)) ?_
              refine D.ofJ 3 (by kernel_rfl) rfl fun KhK40 hK40 => ?_
              refine J.callv rfl rfl rfl rfl Tb.cl139 rfl (rnode_spec _ last) ?_
              refine J.nil ?_
              refine hK40 _ _ _ (fun w hs => hs.mask [true, true, true, false, false, false]) ?_
              refine D.ofJ 5 (by kernel_rfl) rfl fun KhK41 hK41 => ?_
              refine J.storeW 4 rfl rfl rfl rfl rfl rfl rfl Tb.sz30 (hcl _) (hcl _) (hc1 _) ?_
              refine J.nil ?_
              refine hK41 _ _ _ (fun w hs => hs.mask [true, true, true, false, false, false]) ?_
              refine D.ofJ 6 (by kernel_rfl) rfl fun KhK42 hK42 => ?_
              refine J.storeW 3 rfl rfl rfl rfl rfl rfl rfl Tb.sz30 (hcl _) (hcl _) (hc1 _) ?_
              refine J.nil ?_
              refine hK42 _ _ _ (fun w hs => hs.mask [true, true, true, false, false, false]) ?_
              refine D.take 7 (y_assign rfl rfl) rfl rfl rfl rfl (by kernel_rfl) (by kernel_rfl) (by kernel_rfl) (PQ.next (PQ.next PQ.body)) ?_
              refine D.done (by kernel_rfl) ?_
              refine JQ.next hK38 ?_
              refine JC.ret ?_
              refine JQ.then_ret ?_
              exact ret3 rfl (r_cellA 4 rfl rfl Tb.ag30 (by rw [hcl]; exact Tb.sz30)) (r_cellA 3 rfl rfl Tb.ag30 (by rw [hcl]; exact Tb.sz30)) (r_tmp rfl) fun w hs => by rw [hS]; exact Post.pure hs
            · have hS : saysF (f + 1) m n known older p = (node last (saysF f (m - split n) (n - split n) false older (p.take (j - 1))).1, node last (saysF f (m - split n) (n - split n) false older (p.take (j - 1))).2.1, (saysF f (m - split n) (n - split n) false older (p.take (j - 1))).2.2) := by
                rw [saysF, if_neg hmn, if_neg hp0, if_neg (by omega), hgl, hj]
              refine JC.skip ?_
              refine JQ.next hK35 ?_
              refine JC.seq fun K43 hK43 => ?_
              refine JC.region ?_
              refine J.yl (y_move rfl rfl) rfl rfl rfl ?_
              refine J.yl (y_move rfl rfl) rfl rfl rfl ?_
              refine J.yl (y_sub64 rfl rfl rfl (by omega)) rfl rfl rfl ?_
              refine J.yl (y_move rfl rfl) rfl rfl rfl ?_
              refine J.yl (y_move rfl rfl) rfl rfl rfl ?_
              refine J.yl (y_sub64 rfl rfl rfl (by omega)) rfl rfl rfl ?_
              refine J.yl (y_lbW 3 rfl Tb.ag30 Tb.sz30 (hcl _) rfl rfl) rfl rfl rfl ?_
              refine J.yl (y_move rfl rfl) rfl rfl rfl ?_
              refine J.callv rfl rfl rfl rfl Tb.cl112 rfl (ih (m - split n) (n - split n) false older (p.take (j - 1)) A (j - 1) k _ _ (by omega) (by omega) (by omega) (by omega) hl2 (by omega) (by omega) (by omega) (by omega) _ (fun w h => hA2 w h.1)) ?_
              refine J.yl (y_move rfl rfl) rfl rfl rfl ?_
              refine J.yl (y_extract rfl rfl rfl) rfl rfl rfl ?_
              refine J.yl (y_extract rfl rfl rfl) rfl rfl rfl ?_
              refine J.yl (y_extract rfl rfl rfl) rfl rfl rfl ?_
              refine J.alloc rfl rfl rfl rfl Tb.zz30 rfl fun g19 => ?_
              refine J.alloc rfl rfl rfl rfl Tb.zz30 rfl fun g20 => ?_
              refine J.storeW 1 rfl rfl rfl rfl rfl rfl rfl Tb.sz30 (hcl _) (hcl _) (hc1 _) ?_
              refine J.storeW 0 rfl rfl rfl rfl rfl rfl rfl Tb.sz30 (hcl _) (hcl _) (hc1 _) ?_
              refine J.yl (y_assign rfl rfl) rfl rfl rfl ?_
              refine J.nil ?_
              refine JQ.next hK43 ?_
              refine JC.seq fun K44 hK44 => ?_
              refine JC.drawM [true, true, true, false, false, false] (by kernel_rfl) ?_
              refine D.take 0 (y_lbW 2 rfl Tb.ag30 Tb.sz30 (hcl _) rfl rfl) rfl rfl rfl rfl (by kernel_rfl) (by kernel_rfl) (by kernel_rfl) (PQ.next PQ.body) ?_
              refine D.take 1 (y_lbW 1 rfl Tb.ag30 Tb.sz30 (hcl _) rfl rfl) rfl rfl rfl rfl (by kernel_rfl) (by kernel_rfl) (by kernel_rfl) (PQ.next PQ.body) ?_
              refine D.take 3 (y_lbW 2 rfl Tb.ag30 Tb.sz30 (hcl _) rfl rfl) rfl rfl rfl rfl (by kernel_rfl) (by kernel_rfl) (by kernel_rfl) (PQ.next PQ.body) ?_
              refine D.take 4 (y_lbW 0 rfl Tb.ag30 Tb.sz30 (hcl _) rfl rfl) rfl rfl rfl rfl (by kernel_rfl) (by kernel_rfl) (by kernel_rfl) (PQ.next PQ.body) ?_
              refine D.take 6 (y_move rfl rfl) rfl rfl rfl rfl (by kernel_rfl) (by kernel_rfl) (by kernel_rfl) (PQ.next PQ.body) ?_
              refine D.ofJ 2 (by kernel_rfl) rfl fun KhK46 hK46 => ?_
              refine J.callv rfl rfl rfl rfl Tb.cl139 rfl (rnode_spec last _) ?_
              refine J.nil ?_
              refine hK46 _ _ _ (fun w hs => hs.mask [true, true, true, false, false, false]) ?_
              refine D.ofJ 5 (by kernel_rfl) rfl fun KhK48 hK48 => ?_
              refine J.callv rfl rfl rfl rfl Tb.cl139 rfl (rnode_spec last _) ?_
              refine J.nil ?_
              refine hK48 _ _ _ (fun w hs => hs.mask [true, true, true, false, false, false]) ?_
              refine D.ofJ 7 (by kernel_rfl) rfl fun KhK49 hK49 => ?_
              refine J.storeW 4 rfl rfl rfl rfl rfl rfl rfl Tb.sz30 (hcl _) (hcl _) (hc1 _) ?_
              refine J.nil ?_
              refine hK49 _ _ _ (fun w hs => hs.mask [true, true, true, false, false, false]) ?_
              refine D.ofJ 8 (by kernel_rfl) rfl fun KhK50 hK50 => ?_
              refine J.storeW 3 rfl rfl rfl rfl rfl rfl rfl Tb.sz30 (hcl _) (hcl _) (hc1 _) ?_
              refine J.nil ?_
              refine hK50 _ _ _ (fun w hs => hs.mask [true, true, true, false, false, false]) ?_
              refine D.take 9 (y_assign rfl rfl) rfl rfl rfl rfl (by kernel_rfl) (by kernel_rfl) (by kernel_rfl) (PQ.next PQ.body) ?_
              refine D.done (by kernel_rfl) ?_
              refine JQ.next hK44 ?_
              refine JC.ret ?_
              exact ret3 rfl (r_cellA 4 rfl rfl Tb.ag30 (by rw [hcl]; exact Tb.sz30)) (r_cellA 3 rfl rfl Tb.ag30 (by rw [hcl]; exact Tb.sz30)) (r_tmp rfl) fun w hs => by rw [hS]; exact Post.pure hs
theorem rcheck_fn (m n : Int) (older newer : H) (p : List H) (A : Option Addr) (j k : Nat) (hj : p.length = j) (hk : j ≤ k) (hJ : j ≤ 1000000) (hA : ∀ w, F w → Sl w A (hcs p)) :
    PureFn Tryd.prog Gl 28 [.int .i64 m, .int .i64 n, hv older, hv newer, .slice A j k] F (.int .i64 (chk m n older newer p)) := by
  have h2 : n < 0 ∨ 4096 < n ∨ m < 0 ∨ n < m → chk m n older newer p = 2 := fun h => if_pos h
  have h0 : ¬ (n < 0 ∨ 4096 < n ∨ m < 0 ∨ n < m) → chk m n older newer p = if chkOk m.toNat n.toNat older newer p = true then 0 else 80 := fun h => if_neg h
  refine FnSpec.intro Tryd.func28 rfl Tryd.ntmps28 rfl fun X M w => ?_
  refine JC.seq fun K1 hK1 => ?_
  refine JC.region ?_
  refine J.box rfl rfl rfl rfl rfl rfl fun g7 => ?_
  refine J.box rfl rfl rfl rfl rfl rfl fun g8 => ?_
  refine J.yl (y_assign rfl rfl) rfl rfl rfl ?_
  refine J.nil ?_
  refine JQ.next hK1 ?_
  refine JC.seq fun K2 hK2 => ?_
  refine JC.seq fun K3 hK3 => ?_
  refine JC.region ?_
  refine J.yl (y_move rfl rfl) rfl rfl rfl ?_
  refine J.ylp (y_lt rfl rfl rfl) rfl rfl rfl (fun c1 => ?_) (fun c1 => ?_)
  · refine J.yl (y_move rfl rfl) rfl rfl rfl ?_
    refine J.gno (b := true) rfl rfl rfl rfl rfl rfl ?_
    refine J.gno (b := true) rfl rfl rfl rfl rfl rfl ?_
    refine J.yl (y_pick rfl rfl (fun _ => rfl) (fun h => by cases h)) rfl rfl rfl ?_
    refine J.yl (y_move rfl rfl) rfl rfl rfl ?_
    refine J.gno (b := true) rfl rfl rfl rfl rfl rfl ?_
    refine J.gno (b := true) rfl rfl rfl rfl rfl rfl ?_
    refine J.yl (y_pick rfl rfl (fun _ => rfl) (fun h => by cases h)) rfl rfl rfl ?_
    refine J.yl (y_move rfl rfl) rfl rfl rfl ?_
    refine J.gno (b := true) rfl rfl rfl rfl rfl rfl ?_
    refine J.gno (b := true) rfl rfl rfl rfl rfl rfl ?_
    refine J.gno (b := true) rfl rfl rfl rfl rfl rfl ?_
    refine J.yl (y_pick rfl rfl (fun _ => rfl) (fun h => by cases h)) rfl rfl rfl ?_
    refine J.nil ?_
    refine JQ.next hK3 ?_
    refine JC.yes rfl ?_
    refine JC.seq fun K4 hK4 => ?_
    refine JC.region ?_
    refine J.yl (y_assign rfl rfl) rfl rfl rfl ?_
    refine J.nil ?_
    refine JQ.next hK4 ?_
    refine JC.ret ?_
    refine JQ.then_ret ?_
    exact ret1 rfl (r_tmp rfl) fun w hs => by rw [h2 (by omega)]; exact Post.pure hs
  · refine J.yl (y_move rfl rfl) rfl rfl rfl ?_
    refine J.gyes (y_move rfl rfl) rfl rfl rfl rfl rfl rfl ?_
    refine J.ypG (y_gt rfl rfl rfl) rfl rfl rfl rfl rfl rfl (fun c2 => ?_) (fun c2 => ?_)
    · refine J.yl (y_pick rfl rfl (fun h => by cases h) (fun _ => rfl)) rfl rfl rfl ?_
      refine J.yl (y_move rfl rfl) rfl rfl rfl ?_
      refine J.gno (b := true) rfl rfl rfl rfl rfl rfl ?_
      refine J.gno (b := true) rfl rfl rfl rfl rfl rfl ?_
      refine J.yl (y_pick rfl rfl (fun _ => rfl) (fun h => by cases h)) rfl rfl rfl ?_
      refine J.yl (y_move rfl rfl) rfl rfl rfl ?_
      refine J.gno (b := true) rfl rfl rfl rfl rfl rfl ?_
      refine J.gno (b := true) rfl rfl rfl rfl rfl rfl ?_
      refine J.gno (b := true) rfl rfl rfl rfl rfl rfl ?_
      refine J.yl (y_pick rfl rfl (fun _ => rfl) (fun h => by cases h)) rfl rfl rfl ?_
      refine J.nil ?_
      refine JQ.next hK3 ?_
      refine JC.yes rfl ?_
      refine JC.seq fun K5 hK5 => ?_
      refine JC.region ?_
      refine J.yl (y_assign rfl rfl) rfl rfl rfl ?_
      refine J.nil ?_
      refine JQ.next hK5 ?_
      refine JC.ret ?_
      refine JQ.then_ret ?_
      exact ret1 rfl (r_tmp rfl) fun w hs => by rw [h2 (by omega)]; exact Post.pure hs
    · refine J.yl (y_pick rfl rfl (fun h => by cases h) (fun _ => rfl)) rfl rfl rfl ?_
      refine J.yl (y_move rfl rfl) rfl rfl rfl ?_
      refine J.gyes (y_move rfl rfl) rfl rfl rfl rfl rfl rfl ?_
      refine J.ypG (y_lt rfl rfl rfl) rfl rfl rfl rfl rfl rfl (fun c3 => ?_) (fun c3 => ?_)
      · refine J.yl (y_pick rfl rfl (fun h => by cases h) (fun _ => rfl)) rfl rfl rfl ?_
        refine J.yl (y_move rfl rfl) rfl rfl rfl ?_
        refine J.gno (b := true) rfl rfl rfl rfl rfl rfl ?_
        refine J.gno (b := true) rfl rfl rfl rfl rfl rfl ?_
        refine J.gno (b := true) rfl rfl rfl rfl rfl rfl ?_
        refine J.yl (y_pick rfl rfl (fun _ => rfl) (fun h => by cases h)) rfl rfl rfl ?_
        refine J.nil ?_
        refine JQ.next hK3 ?_
        refine JC.yes rfl ?_
        refine JC.seq fun K6 hK6 => ?_
        refine JC.region ?_
        refine J.yl (y_assign rfl rfl) rfl rfl rfl ?_
        refine J.nil ?_
        refine JQ.next hK6 ?_
        refine JC.ret ?_
        refine JQ.then_ret ?_
        exact ret1 rfl (r_tmp rfl) fun w hs => by rw [h2 (by omega)]; exact Post.pure hs
      · refine J.yl (y_pick rfl rfl (fun h => by cases h) (fun _ => rfl)) rfl rfl rfl ?_
        refine J.yl (y_move rfl rfl) rfl rfl rfl ?_
        refine J.gyes (y_move rfl rfl) rfl rfl rfl rfl rfl rfl ?_
        refine J.gyes (y_move rfl rfl) rfl rfl rfl rfl rfl rfl ?_
        refine J.gyes (y_gt rfl rfl rfl) rfl rfl rfl rfl rfl rfl ?_
        refine J.yl (y_pick rfl rfl (fun h => by cases h) (fun _ => rfl)) rfl rfl rfl ?_
        refine J.nil ?_
        refine JQ.next hK3 ?_
        refine JC.condp rfl (fun c4 => ?_) (fun c4 => ?_)
        · refine JC.seq fun K7 hK7 => ?_
          refine JC.region ?_
          refine J.yl (y_assign rfl rfl) rfl rfl rfl ?_
          refine J.nil ?_
          refine JQ.next hK7 ?_
          refine JC.ret ?_
          refine JQ.then_ret ?_
          exact ret1 rfl (r_tmp rfl) fun w hs => by rw [h2 (by omega)]; exact Post.pure hs
        · refine JC.skip ?_
          refine JQ.next hK2 ?_
          refine JC.seq fun K8 hK8 => ?_
          refine JC.region ?_
          refine J.yl (y_assign rfl rfl) rfl rfl rfl ?_
          refine J.nil ?_
          refine JQ.next hK8 ?_
          refine JC.seq fun K9 hK9 => ?_
          refine JC.seq fun K10 hK10 => ?_
          refine JC.region ?_
          refine J.yl (y_move rfl rfl) rfl rfl rfl ?_
          refine J.yl (y_eq rfl rfl rfl) rfl rfl rfl ?_
          refine J.nil ?_
          refine JQ.next hK10 ?_
          have h0 := h0 (by omega)
          obtain ⟨m, rfl⟩ : ∃ q : Nat, m = q := ⟨m.toNat, by omega⟩
          obtain ⟨n, rfl⟩ : ∃ q : Nat, n = q := ⟨n.toNat, by omega⟩
          rw [Int.toNat_natCast, Int.toNat_natCast] at h0
          refine JC.cutE (σ := Unit) (M := fun _ => [(11, .bool (chkOk m n older newer p))]) (kp := [(7, _), (8, _)]) (hkp := (okE_cons rfl (okE_cons rfl okE_nil))) (Dc := fun _ => [.box g8 30 (hc newer), .box g7 30 (hc older)]) (H := fun _ => F) (Ψ := fun _ => True) (fun K11 againK11 => ?_) (fun sK11 hK11 => ?_)
          · refine JC.condp rfl (fun c5 => ?_) (fun c5 => ?_)
            · obtain rfl : m = 0 := by omega
              have hz : chkOk 0 n older newer p = (decide (p.length = 0) && (decide (older = sha []) && (decide (0 < n) || decide (newer = older)))) := if_pos rfl
              refine JC.drawM [true, true] (by kernel_rfl) ?_
              refine D.take 0 (y_move rfl rfl) rfl rfl rfl rfl (by kernel_rfl) (by kernel_rfl) (by kernel_rfl) (PQ.next (PQ.next PQ.body)) ?_
              refine D.take 1 (y_len rfl Tryd.underlying22 rfl) rfl rfl rfl rfl (by kernel_rfl) (by kernel_rfl) (by kernel_rfl) (PQ.next (PQ.next PQ.body)) ?_
              refine D.takep 2 (y_eq rfl rfl rfl) rfl rfl rfl rfl (by kernel_rfl) (by kernel_rfl) (by kernel_rfl) (PQ.next (PQ.next PQ.body)) (fun c6 => ?_) (fun c6 => ?_)
              · have hz : chkOk 0 n older newer p = (decide (older = sha []) && (decide (0 < n) || decide (newer = older))) := by rw [hz, decide_eq_true (show p.length = 0 by omega), Bool.true_and]
                refine D.take 3 (y_move rfl rfl) rfl rfl rfl rfl (by kernel_rfl) (by kernel_rfl) (by kernel_rfl) (PQ.next (PQ.next PQ.body)) ?_
                refine D.takeG 4 (y_lbW 1 rfl Tb.ag30 Tb.sz30 (hcl _) rfl rfl) rfl rfl rfl rfl rfl rfl rfl (by kernel_rfl) (by kernel_rfl) (by kernel_rfl) (PQ.next (PQ.next PQ.body)) ?_
                refine D.ofJ 5 (by kernel_rfl) rfl fun KhK13 hK13 => ?_
                refine J.gon rfl rfl rfl rfl ?_
                refine J.callv rfl rfl rfl rfl Tb.cl111 rfl (rsum_spec [] (by simp)) ?_
                refine J.nil ?_
                refine hK13 _ _ _ (fun w hs => hs.mask [true, true]) ?_
                refine D.takepG 6 (y_heq rfl Tryd.underlying30 Tryd.underlying5 Tb.ag5 Tb.sz5 Tb.eg30 rfl rfl) rfl rfl rfl rfl rfl rfl rfl (by kernel_rfl) (by kernel_rfl) (by kernel_rfl) (PQ.next (PQ.next PQ.body)) (fun c7 => ?_) (fun c7 => ?_)
                · have hz : chkOk 0 n older newer p = (decide (0 < n) || decide (newer = older)) := by rw [hz, decide_eq_true (show older = sha [] from c7), Bool.true_and]
                  refine D.take 7 (y_pick rfl rfl (fun _ => rfl) (fun h => by cases h)) rfl rfl rfl rfl (by kernel_rfl) (by kernel_rfl) (by kernel_rfl) (PQ.next (PQ.next PQ.body)) ?_
                  refine D.take 8 (y_move rfl rfl) rfl rfl rfl rfl (by kernel_rfl) (by kernel_rfl) (by kernel_rfl) (PQ.next (PQ.next PQ.body)) ?_
                  refine D.takeG 9 (y_move rfl rfl) rfl rfl rfl rfl rfl rfl rfl (by kernel_rfl) (by kernel_rfl) (by kernel_rfl) (PQ.next (PQ.next PQ.body)) ?_
                  refine D.takepG 10 (y_gt rfl rfl rfl) rfl rfl rfl rfl rfl rfl rfl (by kernel_rfl) (by kernel_rfl) (by kernel_rfl) (PQ.next (PQ.next PQ.body)) (fun c8 => ?_) (fun c8 => ?_)
                  · have hz : chkOk 0 n older newer p = true := by rw [hz, decide_eq_true (show 0 < n by omega), Bool.true_or]
                    refine D.takeG 11 (y_move rfl rfl) rfl rfl rfl rfl rfl rfl rfl (by kernel_rfl) (by kernel_rfl) (by kernel_rfl) (PQ.next (PQ.next PQ.body)) ?_
                    refine D.skipG (b := true) 12 rfl rfl rfl rfl rfl rfl rfl (by kernel_rfl) (by kernel_rfl) (by kernel_rfl) (PQ.next (PQ.next PQ.body)) ?_
                    refine D.skipG (b := true) 13 rfl rfl rfl rfl rfl rfl rfl (by kernel_rfl) (by kernel_rfl) (by kernel_rfl) (PQ.next (PQ.next PQ.body)) ?_
                    refine D.skipG (b := true) 14 rfl rfl rfl rfl rfl rfl rfl (by kernel_rfl) (by kernel_rfl) (by kernel_rfl) (PQ.next (PQ.next PQ.body)) ?_
                    refine D.takeG 15 (y_pick rfl rfl (fun _ => rfl) (fun h => by cases h)) rfl rfl rfl rfl rfl rfl rfl (by kernel_rfl) (by kernel_rfl) (by kernel_rfl) (PQ.next (PQ.next PQ.body)) ?_
                    refine D.take 16 (y_pick rfl rfl (fun _ => rfl) (fun h => by cases h)) rfl rfl rfl rfl (by kernel_rfl) (by kernel_rfl) (by kernel_rfl) (PQ.next (PQ.next PQ.body)) ?_
                    refine D.take 17 (y_assign rfl rfl) rfl rfl rfl rfl (by kernel_rfl) (by kernel_rfl) (by kernel_rfl) (PQ.next (PQ.next PQ.body)) ?_
                    refine D.done (by kernel_rfl) ?_
                    refine againK11 () _ trivial (okE_cons (slotV (by rw [hz])) okE_nil) (okE_cons rfl (okE_cons rfl okE_nil))
                  · have hz : chkOk 0 n older newer p = decide (older = newer) := by rw [hz, decide_eq_false (show ¬ 0 < n by omega), Bool.false_or]; exact decide_eq_decide.2 ⟨Eq.symm, Eq.symm⟩
                    refine D.takeG 11 (y_move rfl rfl) rfl rfl rfl rfl rfl rfl rfl (by kernel_rfl) (by kernel_rfl) (by kernel_rfl) (PQ.next (PQ.next PQ.body)) ?_
                    refine D.takeG 12 (y_lbW 1 rfl Tb.ag30 Tb.sz30 (hcl _) rfl rfl) rfl rfl rfl rfl rfl rfl rfl (by kernel_rfl) (by kernel_rfl) (by kernel_rfl) (PQ.next (PQ.next PQ.body)) ?_
                    refine D.takeG 13 (y_lbW 0 rfl Tb.ag30 Tb.sz30 (hcl _) rfl rfl) rfl rfl rfl rfl rfl rfl rfl (by kernel_rfl) (by kernel_rfl) (by kernel_rfl) (PQ.next (PQ.next PQ.body)) ?_
                    refine D.takeG 14 (y_heq rfl Tryd.underlying30 Tryd.underlying5 Tb.ag5 Tb.sz5 Tb.eg30 rfl rfl) rfl rfl rfl rfl rfl rfl rfl (by kernel_rfl) (by kernel_rfl) (by kernel_rfl) (PQ.next (PQ.next PQ.body)) ?_
                    refine D.takeG 15 (y_pick rfl rfl (fun h => by cases h) (fun _ => rfl)) rfl rfl rfl rfl rfl rfl rfl (by kernel_rfl) (by kernel_rfl) (by kernel_rfl) (PQ.next (PQ.next PQ.body)) ?_
                    refine D.take 16 (y_pick rfl rfl (fun _ => rfl) (fun h => by cases h)) rfl rfl rfl rfl (by kernel_rfl) (by kernel_rfl) (by kernel_rfl) (PQ.next (PQ.next PQ.body)) ?_
                    refine D.take 17 (y_assign rfl rfl) rfl rfl rfl rfl (by kernel_rfl) (by kernel_rfl) (by kernel_rfl) (PQ.next (PQ.next PQ.body)) ?_
                    refine D.done (by kernel_rfl) ?_
                    refine againK11 () _ trivial (okE_cons (slotV (by rw [hz])) okE_nil) (okE_cons rfl (okE_cons rfl okE_nil))
                · have hz : chkOk 0 n older newer p = false := by rw [hz, decide_eq_false (show ¬ older = sha [] from c7), Bool.false_and]
                  refine D.take 7 (y_pick rfl rfl (fun _ => rfl) (fun h => by cases h)) rfl rfl rfl rfl (by kernel_rfl) (by kernel_rfl) (by kernel_rfl) (PQ.next (PQ.next PQ.body)) ?_
                  refine D.take 8 (y_move rfl rfl) rfl rfl rfl rfl (by kernel_rfl) (by kernel_rfl) (by kernel_rfl) (PQ.next (PQ.next PQ.body)) ?_
                  refine D.skipG (b := false) 9 rfl rfl rfl rfl rfl rfl rfl (by kernel_rfl) (by kernel_rfl) (by kernel_rfl) (PQ.next (PQ.next PQ.body)) ?_
                  refine D.skipG (b := false) 10 rfl rfl rfl rfl rfl rfl rfl (by kernel_rfl) (by kernel_rfl) (by kernel_rfl) (PQ.next (PQ.next PQ.body)) ?_
                  refine D.skipG (b := false) 11 rfl rfl rfl rfl rfl rfl rfl (by kernel_rfl) (by kernel_rfl) (by kernel_rfl) (PQ.next (PQ.next PQ.body)) ?_
                  refine D.skipGU 12 rfl rfl rfl rfl rfl rfl rfl (by kernel_rfl) (by kernel_rfl) (by kernel_rfl) (PQ.next (PQ.next PQ.body)) ?_
                  refine D.skipGU 13 rfl rfl rfl rfl rfl rfl rfl (by kernel_rfl) (by kernel_rfl) (by kernel_rfl) (PQ.next (PQ.next PQ.body)) ?_
                  refine D.skipGU 14 rfl rfl rfl rfl rfl rfl rfl (by kernel_rfl) (by kernel_rfl) (by kernel_rfl) (PQ.next (PQ.next PQ.body)) ?_
                  refine D.skipG (b := false) 15 rfl rfl rfl rfl rfl rfl rfl (by kernel_rfl) (by kernel_rfl) (by kernel_rfl) (PQ.next (PQ.next PQ.body)) ?_
                  refine D.take 16 (y_pick rfl rfl (fun h => by cases h) (fun _ => rfl)) rfl rfl rfl rfl (by kernel_rfl) (by kernel_rfl) (by kernel_rfl) (PQ.next (PQ.next PQ.body)) ?_
                  refine D.take 17 (y_assign rfl rfl) rfl rfl rfl rfl (by kernel_rfl) (by kernel_rfl) (by kernel_rfl) (PQ.next (PQ.next PQ.body)) ?_
                  refine D.done (by kernel_rfl) ?_
                  refine againK11 () _ trivial (okE_cons (slotV (by rw [hz])) okE_nil) (okE_cons rfl (okE_cons rfl okE_nil))
              · have hz : chkOk 0 n older newer p = false := by rw [hz, decide_eq_false (show ¬ p.length = 0 by omega), Bool.false_and]
                refine D.take 3 (y_move rfl rfl) rfl rfl rfl rfl (by kernel_rfl) (by kernel_rfl) (by kernel_rfl) (PQ.next (PQ.next PQ.body)) ?_
                refine D.skipG (b := false) 4 rfl rfl rfl rfl rfl rfl rfl (by kernel_rfl) (by kernel_rfl) (by kernel_rfl) (PQ.next (PQ.next PQ.body)) ?_
                refine D.skipG (b := false) 5 rfl rfl rfl rfl rfl rfl rfl (by kernel_rfl) (by kernel_rfl) (by kernel_rfl) (PQ.next (PQ.next PQ.body)) ?_
                refine D.skipG (b := false) 6 rfl rfl rfl rfl rfl rfl rfl (by kernel_rfl) (by kernel_rfl) (by kernel_rfl) (PQ.next (PQ.next PQ.body)) ?_
                refine D.take 7 (y_pick rfl rfl (fun h => by cases h) (fun _ => rfl)) rfl rfl rfl rfl (by kernel_rfl) (by kernel_rfl) (by kernel_rfl) (PQ.next (PQ.next PQ.body)) ?_
                refine D.take 8 (y_move rfl rfl) rfl rfl rfl rfl (by kernel_rfl) (by kernel_rfl) (by kernel_rfl) (PQ.next (PQ.next PQ.body)) ?_
                refine D.skipG (b := false) 9 rfl rfl rfl rfl rfl rfl rfl (by kernel_rfl) (by kernel_rfl) (by kernel_rfl) (PQ.next (PQ.next PQ.body)) ?_
                refine D.skipG (b := false) 10 rfl rfl rfl rfl rfl rfl rfl (by kernel_rfl) (by kernel_rfl) (by kernel_rfl) (PQ.next (PQ.next PQ.body)) ?_
                refine D.skipG (b := false) 11 rfl rfl rfl rfl rfl rfl rfl (by kernel_rfl) (by kernel_rfl) (by kernel_rfl) (PQ.next (PQ.next PQ.body)) ?_
                refine D.skipGU 12 rfl rfl rfl rfl rfl rfl rfl (by kernel_rfl) (by kernel_rfl) (by kernel_rfl) (PQ.next (PQ.next PQ.body)) ?_
                refine D.skipGU 13 rfl rfl rfl rfl rfl rfl rfl (by kernel_rfl) (by kernel_rfl) (by kernel_rfl) (PQ.next (PQ.next PQ.body)) ?_
                refine D.skipGU 14 rfl rfl rfl rfl rfl rfl rfl (by kernel_rfl) (by kernel_rfl) (by kernel_rfl) (PQ.next (PQ.next PQ.body)) ?_
                refine D.skipG (b := false) 15 rfl rfl rfl rfl rfl rfl rfl (by kernel_rfl) (by kernel_rfl) (by kernel_rfl) (PQ.next (PQ.next PQ.body)) ?_
                refine D.take 16 (y_pick rfl rfl (fun h => by cases h) (fun _ => rfl)) rfl rfl rfl rfl (by kernel_rfl) (by kernel_rfl) (by kernel_rfl) (PQ.next (PQ.next PQ.body)) ?_
                refine D.take 17 (y_assign rfl rfl) rfl rfl rfl rfl (by kernel_rfl) (by kernel_rfl) (by kernel_rfl) (PQ.next (PQ.next PQ.body)) ?_
                refine D.done (by kernel_rfl) ?_
                refine againK11 () _ trivial (okE_cons (slotV (by rw [hz])) okE_nil) (okE_cons rfl (okE_cons rfl okE_nil))
            · refine JC.seq fun K14 hK14 => ?_
              refine JC.region ?_
              refine J.yl (y_move rfl rfl) rfl rfl rfl ?_
              refine J.yl (y_move rfl rfl) rfl rfl rfl ?_
              refine J.yl (y_eq rfl rfl rfl) rfl rfl rfl ?_
              refine J.nil ?_
              refine JQ.next hK14 ?_
              refine JC.condp rfl (fun d5 => ?_) (fun d5 => ?_)
              · obtain rfl : m = n := by omega
                have hz : chkOk m m older newer p = (decide (p.length = 0) && decide (older = newer)) := by unfold chkOk; rw [if_neg (by omega), if_pos rfl]
                refine JC.region ?_
                refine J.yl (y_move rfl rfl) rfl rfl rfl ?_
                refine J.yl (y_len rfl Tryd.underlying22 rfl) rfl rfl rfl ?_
                refine J.ylp (y_eq rfl rfl rfl) rfl rfl rfl (fun d6 => ?_) (fun d6 => ?_)
                · have hz : chkOk m m older newer p = decide (older = newer) := by rw [hz, decide_eq_true (show p.length = 0 by omega), Bool.true_and]
                  refine J.yl (y_move rfl rfl) rfl rfl rfl ?_
                  refine J.gyes (y_lbW 1 rfl Tb.ag30 Tb.sz30 (hcl _) rfl rfl) rfl rfl rfl rfl rfl rfl ?_
                  refine J.gyes (y_lbW 0 rfl Tb.ag30 Tb.sz30 (hcl _) rfl rfl) rfl rfl rfl rfl rfl rfl ?_
                  refine J.gyes (y_heq rfl Tryd.underlying30 Tryd.underlying5 Tb.ag5 Tb.sz5 Tb.eg30 rfl rfl) rfl rfl rfl rfl rfl rfl ?_
                  refine J.yl (y_pick rfl rfl (fun _ => rfl) (fun h => by cases h)) rfl rfl rfl ?_
                  refine J.yl (y_assign rfl rfl) rfl rfl rfl ?_
                  refine J.nil ?_
                  refine againK11 () _ trivial (okE_cons (slotV (by rw [hz])) okE_nil) (okE_cons rfl (okE_cons rfl okE_nil))
                · have hz : chkOk m m older newer p = false := by rw [hz, decide_eq_false (show ¬ p.length = 0 by omega), Bool.false_and]
                  refine J.yl (y_move rfl rfl) rfl rfl rfl ?_
                  refine J.gno (b := false) rfl rfl rfl rfl rfl rfl ?_
                  refine J.gno (b := false) rfl rfl rfl rfl rfl rfl ?_
                  refine J.gno (b := false) rfl rfl rfl rfl rfl rfl ?_
                  refine J.yl (y_pick rfl rfl (fun h => by cases h) (fun _ => rfl)) rfl rfl rfl ?_
                  refine J.yl (y_assign rfl rfl) rfl rfl rfl ?_
                  refine J.nil ?_
                  refine againK11 () _ trivial (okE_cons (slotV (by rw [hz])) okE_nil) (okE_cons rfl (okE_cons rfl okE_nil))
              · have hz : chkOk m n older newer p = verdict (dirs m n) older newer p := by unfold chkOk; rw [if_neg (by omega), if_neg (by omega)]
                rw [verdict, says_start n m n true older p (by omega) (by omega) (Nat.le_refl _)] at hz
                refine JC.seq fun K15 hK15 => ?_
                refine JC.region ?_
                refine J.yl (y_move rfl rfl) rfl rfl rfl ?_
                refine J.yl (y_move rfl rfl) rfl rfl rfl ?_
                refine J.yl (y_lbW 1 rfl Tb.ag30 Tb.sz30 (hcl _) rfl rfl) rfl rfl rfl ?_
                refine J.yl (y_move rfl rfl) rfl rfl rfl ?_
                obtain ⟨sa, sb, sk, hs⟩ : ∃ sa sb sk, saysF n m n true older p = (sa, sb, sk) := ⟨_, _, _, rfl⟩
                rw [hs] at hz
                cases sk with
                | false =>
                  have hz : chkOk m n older newer p = false := by rw [hz]; rfl
                  refine J.callv rfl rfl rfl rfl Tb.cl112 rfl ((says_fn n m n true older p A j k _ _ (by omega) (by omega) (Nat.le_refl _) (by omega) hj hk hJ rfl rfl _ (fun w h => hA w h.1)).to (by rw [hs])) ?_
                  refine J.yl (y_move rfl rfl) rfl rfl rfl ?_
                  refine J.yl (y_extract rfl rfl rfl) rfl rfl rfl ?_
                  refine J.yl (y_extract rfl rfl rfl) rfl rfl rfl ?_
                  refine J.yl (y_extract rfl rfl rfl) rfl rfl rfl ?_
                  refine J.alloc rfl rfl rfl rfl Tb.zz30 rfl fun g12 => ?_
                  refine J.alloc rfl rfl rfl rfl Tb.zz30 rfl fun g13 => ?_
                  refine J.storeW 1 rfl rfl rfl rfl rfl rfl rfl Tb.sz30 (hcl _) (hcl _) (hc1 _) ?_
                  refine J.storeW 0 rfl rfl rfl rfl rfl rfl rfl Tb.sz30 (hcl _) (hcl _) (hc1 _) ?_
                  refine J.yl (y_assign rfl rfl) rfl rfl rfl ?_
                  refine J.nil ?_
                  refine JQ.next hK15 ?_
                  refine JC.region ?_
                  refine J.yl (y_move rfl rfl) rfl rfl rfl ?_
                  refine J.yl (y_move rfl rfl) rfl rfl rfl ?_
                  refine J.gno (b := false) rfl rfl rfl rfl rfl rfl ?_
                  refine J.gno (b := false) rfl rfl rfl rfl rfl rfl ?_
                  refine J.gno (b := false) rfl rfl rfl rfl rfl rfl ?_
                  refine J.yl (y_pick rfl rfl (fun h => by cases h) (fun _ => rfl)) rfl rfl rfl ?_
                  refine J.yl (y_move rfl rfl) rfl rfl rfl ?_
                  refine J.gno (b := false) rfl rfl rfl rfl rfl rfl ?_
                  refine J.gno (b := false) rfl rfl rfl rfl rfl rfl ?_
                  refine J.gno (b := false) rfl rfl rfl rfl rfl rfl ?_
                  refine J.yl (y_pick rfl rfl (fun h => by cases h) (fun _ => rfl)) rfl rfl rfl ?_
                  refine J.yl (y_assign rfl rfl) rfl rfl rfl ?_
                  refine J.nil ?_
                  refine JQ.drop ?_
                  refine JQ.drop ?_
                  refine againK11 () _ trivial (okE_cons (slotV (by rw [hz])) okE_nil) (okE_cons rfl (okE_cons rfl okE_nil))
                | true =>
                  have hz : chkOk m n older newer p = (decide (sa = older) && decide (sb = newer)) := by rw [hz]; rfl
                  refine J.callv rfl rfl rfl rfl Tb.cl112 rfl ((says_fn n m n true older p A j k _ _ (by omega) (by omega) (Nat.le_refl _) (by omega) hj hk hJ rfl rfl _ (fun w h => hA w h.1)).to (by rw [hs])) ?_
                  refine J.yl (y_move rfl rfl) rfl rfl rfl ?_
                  refine J.yl (y_extract rfl rfl rfl) rfl rfl rfl ?_
                  refine J.yl (y_extract rfl rfl rfl) rfl rfl rfl ?_
                  refine J.yl (y_extract rfl rfl rfl) rfl rfl rfl ?_
                  refine J.alloc rfl rfl rfl rfl Tb.zz30 rfl fun g12 => ?_
                  refine J.alloc rfl rfl rfl rfl Tb.zz30 rfl fun g13 => ?_
                  refine J.storeW 1 rfl rfl rfl rfl rfl rfl rfl Tb.sz30 (hcl _) (hcl _) (hc1 _) ?_
                  refine J.storeW 0 rfl rfl rfl rfl rfl rfl rfl Tb.sz30 (hcl _) (hcl _) (hc1 _) ?_
                  refine J.yl (y_assign rfl rfl) rfl rfl rfl ?_
                  refine J.nil ?_
                  refine JQ.next hK15 ?_
                  refine JC.region ?_
                  refine J.yl (y_move rfl rfl) rfl rfl rfl ?_
                  refine J.yl (y_move rfl rfl) rfl rfl rfl ?_
                  refine J.gyes (y_lbW 1 rfl Tb.ag30 Tb.sz30 (hcl _) rfl rfl) rfl rfl rfl rfl rfl rfl ?_
                  refine J.gyes (y_lbW 3 rfl Tb.ag30 Tb.sz30 (hcl _) rfl rfl) rfl rfl rfl rfl rfl rfl ?_
                  refine J.ypG (y_heq rfl Tryd.underlying30 Tryd.underlying5 Tb.ag5 Tb.sz5 Tb.eg30 rfl rfl) rfl rfl rfl rfl rfl rfl (fun e1 => ?_) (fun e1 => ?_)
                  · have hz : chkOk m n older newer p = decide (sb = newer) := by rw [hz, decide_eq_true (show sa = older from e1), Bool.true_and]
                    refine J.yl (y_pick rfl rfl (fun _ => rfl) (fun h => by cases h)) rfl rfl rfl ?_
                    refine J.yl (y_move rfl rfl) rfl rfl rfl ?_
                    refine J.gyes (y_lbW 0 rfl Tb.ag30 Tb.sz30 (hcl _) rfl rfl) rfl rfl rfl rfl rfl rfl ?_
                    refine J.gyes (y_lbW 2 rfl Tb.ag30 Tb.sz30 (hcl _) rfl rfl) rfl rfl rfl rfl rfl rfl ?_
                    refine J.gyes (y_heq rfl Tryd.underlying30 Tryd.underlying5 Tb.ag5 Tb.sz5 Tb.eg30 rfl rfl) rfl rfl rfl rfl rfl rfl ?_
                    refine J.yl (y_pick rfl rfl (fun _ => rfl) (fun h => by cases h)) rfl rfl rfl ?_
                    refine J.yl (y_assign rfl rfl) rfl rfl rfl ?_
                    refine J.nil ?_
                    refine JQ.drop ?_
                    refine JQ.drop ?_
                    refine againK11 () _ trivial (okE_cons (slotV (by rw [hz])) okE_nil) (okE_cons rfl (okE_cons rfl okE_nil))
                  · have hz : chkOk m n older newer p = false := by rw [hz, decide_eq_false (show ¬ sa = older from e1), Bool.false_and]
                    refine J.yl (y_pick rfl rfl (fun _ => rfl) (fun h => by cases h)) rfl rfl rfl ?_
                    refine J.yl (y_move rfl rfl) rfl rfl rfl ?_
                    refine J.gno (b := false) rfl rfl rfl rfl rfl rfl ?_
                    refine J.gno (b := false) rfl rfl rfl rfl rfl rfl ?_
                    refine J.gno (b := false) rfl rfl rfl rfl rfl rfl ?_
                    refine J.yl (y_pick rfl rfl (fun h => by cases h) (fun _ => rfl)) rfl rfl rfl ?_
                    refine J.yl (y_assign rfl rfl) rfl rfl rfl ?_
                    refine J.nil ?_
                    refine JQ.drop ?_
                    refine JQ.drop ?_
                    refine againK11 () _ trivial (okE_cons (slotV (by rw [hz])) okE_nil) (okE_cons rfl (okE_cons rfl okE_nil))
          · obtain ⟨⟩ := sK11
            dsimp only at hK11 ⊢
            obtain _ := hK11
            refine JQ.next hK9 ?_
            refine JC.seq fun K16 hK16 => ?_
            refine JC.seq fun K17 hK17 => ?_
            refine JC.region ?_
            refine J.yl (y_move rfl rfl) rfl rfl rfl ?_
            refine J.yl (y_not rfl rfl) rfl rfl rfl ?_
            refine J.nil ?_
            refine JQ.next hK17 ?_
            refine JC.cond rfl (fun f1 => ?_) (fun f1 => ?_)
            · have hz : chkOk m n older newer p = false := by simpa using f1
              refine JC.seq fun K18 hK18 => ?_
              refine JC.region ?_
              refine J.yl (y_assign rfl rfl) rfl rfl rfl ?_
              refine J.nil ?_
              refine JQ.next hK18 ?_
              refine JC.ret ?_
              refine JQ.then_ret ?_
              exact ret1 rfl (r_tmp rfl) fun w hs => by rw [h0, hz]; exact Post.pure hs
            · have hz : chkOk m n older newer p = true := by simpa using f1
              refine JC.skip ?_
              refine JQ.next hK16 ?_
              refine JC.seq fun K19 hK19 => ?_
              refine JC.region ?_
              refine J.yl (y_assign rfl rfl) rfl rfl rfl ?_
              refine J.nil ?_
              refine JQ.next hK19 ?_
              refine JC.ret ?_
              exact ret1 rfl (r_tmp rfl) fun w hs => by rw [h0, hz]; exact Post.pure hs
end Go.Proofs.YtjkfeonbioccmaaDoor
namespace Go.Proofs.YtjkfeonbioccmaaDoor
open Go Go.Sx Go.RowKit
set_option linter.unusedVariables false
set_option linter.unusedSimpArgs false
set_option maxRecDepth 100000
set_option maxHeartbeats 1000000
variable {Gl F : World → Prop}

theorem some_fnE (n : Nat) (a : Int) (seed : UInt8) (q : List H) (hq : someL n seed = q) (ha : a = n) (hn : n ≤ 100000) : FnSpec Tryd.prog Gl 29 [.int .i64 a, u8 seed] [] F (ι := Option Addr × Nat) (fun i => n ≤ i.2) (fun i => .slice i.1 n i.2) (fun i => [.row (.slice i.1 n i.2) 30 32 n (hcs q)]) (fun _ _ => True) := by
  subst hq; exact some_fn n a seed ha hn
theorem proof_fnE (l : List H) (m : Int) (q : List H) (x : Int) (hq : prf l m = q) (hx : prfE l m = x) (A : Option Addr) (n k : Nat) (hn : l.length = n) (hk : n ≤ k) (hM : n ≤ 100000) (hA : ∀ w, F w → Sl w A (hcs l)) :
    FnSpec Tryd.prog Gs 24 [.slice A n k, .int .i64 m] [] F (ι := Option Addr × Nat) (fun i => q.length ≤ i.2) (fun i => .tuple #[.slice i.1 q.length i.2, .int .i64 x]) (OwnL q) (fun _ _ => True) := by
  subst hq; subst hx; exact proof_fn l m A n k hn hk hM hA
theorem proved_fn : PureFn Tryd.prog Gs 23 [] F (.bool true) := by
  obtain ⟨a, b, c, d, e, hl⟩ : ∃ a b c d e, someL 5 2 = [a, b, c, d, e] := ⟨_, _, _, _, _, rfl⟩
  have hcA : chk 4 5 (root [a, b, c, d]) (root [a, b, c, d, e]) [e] = 0 := by
    have := chk_prf [a, b, c, d, e] 4 (by show 4 ≤ 5; omega) (by show 5 ≤ 4096; omega)
    rw [prf5_4] at this; exact this
  have hcB : chk 3 5 (root [a, b, c]) (root [a, b, c, d, e]) [e] = 80 := chk_other [a, b, c, d, e] 3 5 _ _ [e] (by show 3 ≤ 5; omega) rfl (by show 5 ≤ 4096; omega) (by rw [prf5_3]; show 1 ≠ 4; omega)
  refine FnSpec.intro Tryd.func23 rfl Tryd.ntmps23 rfl fun X M w => ?_
  refine JC.seq fun K1 hK1 => ?_
  refine JC.region ?_
  refine J.yl (y_assign rfl rfl) rfl rfl rfl ?_
  refine J.nil ?_
  refine JQ.next hK1 ?_
  refine JC.seq fun K2 hK2 => ?_
  refine JC.region ?_
  refine J.callR (Cin := []) rfl rfl rfl rfl Tb.cl29 rfl rfl (some_fnE 5 5 2 [a, b, c, d, e] hl rfl (by omega)) ?_
  rintro ⟨A, k⟩ hk
  refine J.yl (y_assign rfl rfl) rfl rfl rfl ?_
  refine J.nil ?_
  refine JQ.next hK2 ?_
  refine JC.seq fun K3 hK3 => ?_
  refine JC.region ?_
  refine J.yl (y_move rfl rfl) rfl rfl rfl ?_
  refine J.callR (Cin := []) rfl rfl rfl rfl Tb.cl24 rfl rfl (proof_fnE [a, b, c, d, e] 3 [c, d, node a b, e] 0 (prf5_3 a b c d e) rfl A 5 k rfl hk (by omega) (fun w h => ckrow 0 rfl h)) ?_
  rintro ⟨A3, k3⟩ hk3
  refine J.yl (y_move rfl rfl) rfl rfl rfl ?_
  refine J.yl (y_extract rfl rfl rfl) rfl rfl rfl ?_
  refine J.yl (y_extract rfl rfl rfl) rfl rfl rfl ?_
  refine J.yl (y_assign rfl rfl) rfl rfl rfl ?_
  refine J.yl (y_assign rfl rfl) rfl rfl rfl ?_
  refine J.nil ?_
  refine JQ.next hK3 ?_
  refine JC.seq fun K4 hK4 => ?_
  refine JC.region ?_
  refine J.yl (y_move rfl rfl) rfl rfl rfl ?_
  refine J.callR (Cin := []) rfl rfl rfl rfl Tb.cl24 rfl rfl (proof_fnE [a, b, c, d, e] 4 [e] 0 (prf5_4 a b c d e) rfl A 5 k rfl hk (by omega) (fun w h => ckrow 1 rfl h)) ?_
  rintro ⟨A4, k4⟩ hk4
  refine J.yl (y_move rfl rfl) rfl rfl rfl ?_
  refine J.yl (y_extract rfl rfl rfl) rfl rfl rfl ?_
  refine J.yl (y_extract rfl rfl rfl) rfl rfl rfl ?_
  refine J.yl (y_assign rfl rfl) rfl rfl rfl ?_
  refine J.yl (y_assign rfl rfl) rfl rfl rfl ?_
  refine J.nil ?_
  refine JQ.next hK4 ?_
  refine JC.seq fun K5 hK5 => ?_
  refine JC.region ?_
  refine J.yl (y_move rfl rfl) rfl rfl rfl ?_
  refine J.callR (Cin := []) rfl rfl rfl rfl Tb.cl24 rfl rfl (proof_fnE [a, b, c, d, e] 5 [] 0 (prf5_5 a b c d e) rfl A 5 k rfl hk (by omega) (fun w h => ckrow 2 rfl h)) ?_
  rintro ⟨A5, k5⟩ hk5
  refine J.yl (y_move rfl rfl) rfl rfl rfl ?_
  refine J.yl (y_extract rfl rfl rfl) rfl rfl rfl ?_
  refine J.yl (y_extract rfl rfl rfl) rfl rfl rfl ?_
  refine J.yl (y_assign rfl rfl) rfl rfl rfl ?_
  refine J.yl (y_assign rfl rfl) rfl rfl rfl ?_
  refine J.nil ?_
  refine JQ.next hK5 ?_
  refine JC.seq fun K6 hK6 => ?_
  refine JC.region ?_
  refine J.yl (y_move rfl rfl) rfl rfl rfl ?_
  refine J.drop ?_
  refine J.callR (Cin := []) rfl rfl rfl rfl Tb.cl24 rfl rfl (proof_fnE [a, b, c, d, e] 0 [] 0 (prf_out _ _ (.inl (Int.le_refl _))) rfl A 5 k rfl hk (by omega) (fun w h => ckrow 2 rfl h)) ?_
  rintro ⟨A0, k0⟩ hk0
  refine J.yl (y_move rfl rfl) rfl rfl rfl ?_
  refine J.yl (y_extract rfl rfl rfl) rfl rfl rfl ?_
  refine J.yl (y_extract rfl rfl rfl) rfl rfl rfl ?_
  refine J.yl (y_assign rfl rfl) rfl rfl rfl ?_
  refine J.yl (y_assign rfl rfl) rfl rfl rfl ?_
  refine J.nil ?_
  refine JQ.next hK6 ?_
  refine JC.seq fun K7 hK7 => ?_
  refine JC.region ?_
  refine J.yl (y_move rfl rfl) rfl rfl rfl ?_
  refine J.drop ?_
  refine J.callR (Cin := []) rfl rfl rfl rfl Tb.cl24 rfl rfl (proof_fnE [a, b, c, d, e] 6 [] 2 (prf_out _ _ (.inr (by show (5 : Int) < 6; omega))) rfl A 5 k rfl hk (by omega) (fun w h => ckrow 2 rfl h)) ?_
  rintro ⟨A6, k6⟩ hk6
  refine J.yl (y_move rfl rfl) rfl rfl rfl ?_
  refine J.yl (y_extract rfl rfl rfl) rfl rfl rfl ?_
  refine J.yl (y_extract rfl rfl rfl) rfl rfl rfl ?_
  refine J.yl (y_assign rfl rfl) rfl rfl rfl ?_
  refine J.yl (y_assign rfl rfl) rfl rfl rfl ?_
  refine J.nil ?_
  refine JQ.next hK7 ?_
  refine JC.seq fun K8 hK8 => ?_
  refine JC.region ?_
  refine J.yl (y_move rfl rfl) rfl rfl rfl ?_
  refine J.drop ?_
  refine J.callv rfl rfl rfl rfl Tb.cl30 rfl (root_spec [a, b, c, d, e] A 5 k rfl hk (by omega) (fun w h => ckrow 2 rfl h)) ?_
  refine J.alloc rfl rfl rfl rfl Tb.zz30 rfl fun g12 => ?_
  refine J.storeW 0 rfl rfl rfl rfl rfl rfl rfl Tb.sz30 (hcl _) (hcl _) (hc1 _) ?_
  refine J.nil ?_
  refine JQ.next hK8 ?_
  refine JC.seq fun K9 hK9 => ?_
  refine JC.drawM [true, true, true, true] (by kernel_rfl) ?_
  refine D.take 0 (y_move rfl rfl) rfl rfl rfl rfl (by kernel_rfl) (by kernel_rfl) (by kernel_rfl) (PQ.next PQ.body) ?_
  refine D.take 1 ((y_eq rfl rfl rfl).to rfl) rfl rfl rfl rfl (by kernel_rfl) (by kernel_rfl) (by kernel_rfl) (PQ.next PQ.body) ?_
  refine D.take 2 (y_move rfl rfl) rfl rfl rfl rfl (by kernel_rfl) (by kernel_rfl) (by kernel_rfl) (PQ.next PQ.body) ?_
  refine D.takeG 3 (y_move rfl rfl) rfl rfl rfl rfl rfl rfl rfl (by kernel_rfl) (by kernel_rfl) (by kernel_rfl) (PQ.next PQ.body) ?_
  refine D.takeG 4 ((y_eq rfl rfl rfl).to rfl) rfl rfl rfl rfl rfl rfl rfl (by kernel_rfl) (by kernel_rfl) (by kernel_rfl) (PQ.next PQ.body) ?_
  refine D.take 5 (y_pick rfl rfl (fun _ => rfl) (fun h => by cases h)) rfl rfl rfl rfl (by kernel_rfl) (by kernel_rfl) (by kernel_rfl) (PQ.next PQ.body) ?_
  refine D.take 6 (y_move rfl rfl) rfl rfl rfl rfl (by kernel_rfl) (by kernel_rfl) (by kernel_rfl) (PQ.next PQ.body) ?_
  refine D.takeG 7 (y_move rfl rfl) rfl rfl rfl rfl rfl rfl rfl (by kernel_rfl) (by kernel_rfl) (by kernel_rfl) (PQ.next PQ.body) ?_
  refine D.takeG 8 ((y_eq rfl rfl rfl).to rfl) rfl rfl rfl rfl rfl rfl rfl (by kernel_rfl) (by kernel_rfl) (by kernel_rfl) (PQ.next PQ.body) ?_
  refine D.take 9 (y_pick rfl rfl (fun _ => rfl) (fun h => by cases h)) rfl rfl rfl rfl (by kernel_rfl) (by kernel_rfl) (by kernel_rfl) (PQ.next PQ.body) ?_
  refine D.take 10 (y_move rfl rfl) rfl rfl rfl rfl (by kernel_rfl) (by kernel_rfl) (by kernel_rfl) (PQ.next PQ.body) ?_
  refine D.takeG 11 (y_move rfl rfl) rfl rfl rfl rfl rfl rfl rfl (by kernel_rfl) (by kernel_rfl) (by kernel_rfl) (PQ.next PQ.body) ?_
  refine D.takeG 12 ((y_eq rfl rfl rfl).to rfl) rfl rfl rfl rfl rfl rfl rfl (by kernel_rfl) (by kernel_rfl) (by kernel_rfl) (PQ.next PQ.body) ?_
  refine D.take 13 (y_pick rfl rfl (fun _ => rfl) (fun h => by cases h)) rfl rfl rfl rfl (by kernel_rfl) (by kernel_rfl) (by kernel_rfl) (PQ.next PQ.body) ?_
  refine D.take 14 (y_move rfl rfl) rfl rfl rfl rfl (by kernel_rfl) (by kernel_rfl) (by kernel_rfl) (PQ.next PQ.body) ?_
  refine D.takeG 15 (y_move rfl rfl) rfl rfl rfl rfl rfl rfl rfl (by kernel_rfl) (by kernel_rfl) (by kernel_rfl) (PQ.next PQ.body) ?_
  refine D.takeG 16 ((y_eq rfl rfl rfl).to rfl) rfl rfl rfl rfl rfl rfl rfl (by kernel_rfl) (by kernel_rfl) (by kernel_rfl) (PQ.next PQ.body) ?_
  refine D.take 17 (y_pick rfl rfl (fun _ => rfl) (fun h => by cases h)) rfl rfl rfl rfl (by kernel_rfl) (by kernel_rfl) (by kernel_rfl) (PQ.next PQ.body) ?_
  refine D.take 18 (y_move rfl rfl) rfl rfl rfl rfl (by kernel_rfl) (by kernel_rfl) (by kernel_rfl) (PQ.next PQ.body) ?_
  refine D.takeG 19 (y_move rfl rfl) rfl rfl rfl rfl rfl rfl rfl (by kernel_rfl) (by kernel_rfl) (by kernel_rfl) (PQ.next PQ.body) ?_
  refine D.takeG 20 (y_move rfl rfl) rfl rfl rfl rfl rfl rfl rfl (by kernel_rfl) (by kernel_rfl) (by kernel_rfl) (PQ.next PQ.body) ?_
  refine D.takeG 23 (y_move rfl rfl) rfl rfl rfl rfl rfl rfl rfl (by kernel_rfl) (by kernel_rfl) (by kernel_rfl) (PQ.next PQ.body) ?_
  refine D.takeG 26 (y_move rfl rfl) rfl rfl rfl rfl rfl rfl rfl (by kernel_rfl) (by kernel_rfl) (by kernel_rfl) (PQ.next PQ.body) ?_
  refine D.takeG 29 (y_move rfl rfl) rfl rfl rfl rfl rfl rfl rfl (by kernel_rfl) (by kernel_rfl) (by kernel_rfl) (PQ.next PQ.body) ?_
  refine D.takeG 33 (y_move rfl rfl) rfl rfl rfl rfl rfl rfl rfl (by kernel_rfl) (by kernel_rfl) (by kernel_rfl) (PQ.next PQ.body) ?_
  refine D.takeG 21 (y_hidx (n := 5) (l := [a, b, c, d, e]) 2 rfl Tryd.underlying22 Tb.sz30 rfl rfl rfl rfl (by omega) (fun w hs => strow hs 3 rfl)) rfl rfl rfl rfl rfl rfl rfl (by kernel_rfl) (by kernel_rfl) (by kernel_rfl) (PQ.next PQ.body) ?_
  refine D.takeG 22 (y_hld (l := [a, b, c, d, e]) c rfl Tb.ag30 Tb.sz30 rfl rfl (fun w hs => strow hs 3 rfl)) rfl rfl rfl rfl rfl rfl rfl (by kernel_rfl) (by kernel_rfl) (by kernel_rfl) (PQ.next PQ.body) ?_
  refine D.takeG 24 (y_hidx (n := 5) (l := [a, b, c, d, e]) 3 rfl Tryd.underlying22 Tb.sz30 rfl rfl rfl rfl (by omega) (fun w hs => strow hs 3 rfl)) rfl rfl rfl rfl rfl rfl rfl (by kernel_rfl) (by kernel_rfl) (by kernel_rfl) (PQ.next PQ.body) ?_
  refine D.takeG 25 (y_hld (l := [a, b, c, d, e]) d rfl Tb.ag30 Tb.sz30 rfl rfl (fun w hs => strow hs 3 rfl)) rfl rfl rfl rfl rfl rfl rfl (by kernel_rfl) (by kernel_rfl) (by kernel_rfl) (PQ.next PQ.body) ?_
  refine D.takeG 27 (y_hidx (n := 5) (l := [a, b, c, d, e]) 0 rfl Tryd.underlying22 Tb.sz30 rfl rfl rfl rfl (by omega) (fun w hs => strow hs 3 rfl)) rfl rfl rfl rfl rfl rfl rfl (by kernel_rfl) (by kernel_rfl) (by kernel_rfl) (PQ.next PQ.body) ?_
  refine D.takeG 28 (y_hld (l := [a, b, c, d, e]) a rfl Tb.ag30 Tb.sz30 rfl rfl (fun w hs => strow hs 3 rfl)) rfl rfl rfl rfl rfl rfl rfl (by kernel_rfl) (by kernel_rfl) (by kernel_rfl) (PQ.next PQ.body) ?_
  refine D.takeG 30 (y_hidx (n := 5) (l := [a, b, c, d, e]) 1 rfl Tryd.underlying22 Tb.sz30 rfl rfl rfl rfl (by omega) (fun w hs => strow hs 3 rfl)) rfl rfl rfl rfl rfl rfl rfl (by kernel_rfl) (by kernel_rfl) (by kernel_rfl) (PQ.next PQ.body) ?_
  refine D.takeG 31 (y_hld (l := [a, b, c, d, e]) b rfl Tb.ag30 Tb.sz30 rfl rfl (fun w hs => strow hs 3 rfl)) rfl rfl rfl rfl rfl rfl rfl (by kernel_rfl) (by kernel_rfl) (by kernel_rfl) (PQ.next PQ.body) ?_
  refine D.takeG 34 (y_hidx (n := 5) (l := [a, b, c, d, e]) 4 rfl Tryd.underlying22 Tb.sz30 rfl rfl rfl rfl (by omega) (fun w hs => strow hs 3 rfl)) rfl rfl rfl rfl rfl rfl rfl (by kernel_rfl) (by kernel_rfl) (by kernel_rfl) (PQ.next PQ.body) ?_
  refine D.takeG 35 (y_hld (l := [a, b, c, d, e]) e rfl Tb.ag30 Tb.sz30 rfl rfl (fun w hs => strow hs 3 rfl)) rfl rfl rfl rfl rfl rfl rfl (by kernel_rfl) (by kernel_rfl) (by kernel_rfl) (PQ.next PQ.body) ?_
  refine D.ofJ 32 (by kernel_rfl) rfl fun KhK11 hK11 => ?_
  refine J.gon rfl rfl rfl rfl ?_
  refine J.callv rfl rfl rfl rfl Tb.cl105 rfl (node_spec a b) ?_
  refine J.nil ?_
  refine hK11 _ _ _ (fun w hs => hs.mask [true, true, true, true]) ?_
  refine D.ofJ 36 (by kernel_rfl) rfl fun KhK13 hK13 => ?_
  refine J.gon rfl rfl rfl rfl ?_
  refine J.bsN (cs := hcs ([c, d, node a b, e])) ([c, d, node a b, e]) hv hc hv_cells hcl rfl rfl rfl rfl rfl rfl Tryd.underlying22 Tb.zz30 Tb.sz30 rfl rfl fun g77 => ?_
  refine J.nil ?_
  refine hK13 _ _ _ (fun w hs => hs.mask [false, true, true, true, true]) ?_
  refine D.ofJ 37 (by kernel_rfl) rfl fun KhK15 hK15 => ?_
  refine J.gon rfl rfl rfl rfl ?_
  refine J.callv rfl rfl rfl rfl Tb.cl26 rfl ((same_fn [c, d, node a b, e] [c, d, node a b, e] _ _ 4 4 _ _ rfl rfl (by omega) (fun w h => ckrow 3 rfl h) (fun w h => ckrow 0 rfl h)).to (by rw [decide_eq_true rfl])) ?_
  refine J.nil ?_
  refine hK15 _ _ _ (fun w hs => hs.mask [false, true, true, true, true]) ?_
  refine D.take 38 (y_pick rfl rfl (fun _ => rfl) (fun h => by cases h)) rfl rfl rfl rfl (by kernel_rfl) (by kernel_rfl) (by kernel_rfl) (PQ.next PQ.body) ?_
  refine D.take 39 (y_move rfl rfl) rfl rfl rfl rfl (by kernel_rfl) (by kernel_rfl) (by kernel_rfl) (PQ.next PQ.body) ?_
  refine D.takeG 40 (y_move rfl rfl) rfl rfl rfl rfl rfl rfl rfl (by kernel_rfl) (by kernel_rfl) (by kernel_rfl) (PQ.next PQ.body) ?_
  refine D.takeG 41 (y_move rfl rfl) rfl rfl rfl rfl rfl rfl rfl (by kernel_rfl) (by kernel_rfl) (by kernel_rfl) (PQ.next PQ.body) ?_
  refine D.takeG 42 (y_hidx (n := 5) (l := [a, b, c, d, e]) 4 rfl Tryd.underlying22 Tb.sz30 rfl rfl rfl rfl (by omega) (fun w hs => strow hs 3 rfl)) rfl rfl rfl rfl rfl rfl rfl (by kernel_rfl) (by kernel_rfl) (by kernel_rfl) (PQ.next PQ.body) ?_
  refine D.takeG 43 (y_hld (l := [a, b, c, d, e]) e rfl Tb.ag30 Tb.sz30 rfl rfl (fun w hs => strow hs 3 rfl)) rfl rfl rfl rfl rfl rfl rfl (by kernel_rfl) (by kernel_rfl) (by kernel_rfl) (PQ.next PQ.body) ?_
  refine D.ofJ 44 (by kernel_rfl) rfl fun KhK16 hK16 => ?_
  refine J.gon rfl rfl rfl rfl ?_
  refine J.bsN (cs := hcs ([e])) ([e]) hv hc hv_cells hcl rfl rfl rfl rfl rfl rfl Tryd.underlying22 Tb.zz30 Tb.sz30 rfl rfl fun g85 => ?_
  refine J.nil ?_
  refine hK16 _ _ _ (fun w hs => hs.mask [false, false, true, true, true, true]) ?_
  refine D.ofJ 45 (by kernel_rfl) rfl fun KhK18 hK18 => ?_
  refine J.gon rfl rfl rfl rfl ?_
  refine J.callv rfl rfl rfl rfl Tb.cl26 rfl ((same_fn [e] [e] _ _ 1 1 _ _ rfl rfl (by omega) (fun w h => ckrow 3 rfl h) (fun w h => ckrow 0 rfl h)).to (by rw [decide_eq_true rfl])) ?_
  refine J.nil ?_
  refine hK18 _ _ _ (fun w hs => hs.mask [false, false, true, true, true, true]) ?_
  refine D.take 46 (y_pick rfl rfl (fun _ => rfl) (fun h => by cases h)) rfl rfl rfl rfl (by kernel_rfl) (by kernel_rfl) (by kernel_rfl) (PQ.next PQ.body) ?_
  refine D.take 47 (y_move rfl rfl) rfl rfl rfl rfl (by kernel_rfl) (by kernel_rfl) (by kernel_rfl) (PQ.next PQ.body) ?_
  refine D.takeG 48 (y_move rfl rfl) rfl rfl rfl rfl rfl rfl rfl (by kernel_rfl) (by kernel_rfl) (by kernel_rfl) (PQ.next PQ.body) ?_
  refine D.takeG 49 (y_len rfl Tryd.underlying22 rfl) rfl rfl rfl rfl rfl rfl rfl (by kernel_rfl) (by kernel_rfl) (by kernel_rfl) (PQ.next PQ.body) ?_
  refine D.takeG 50 ((y_eq rfl rfl rfl).to rfl) rfl rfl rfl rfl rfl rfl rfl (by kernel_rfl) (by kernel_rfl) (by kernel_rfl) (PQ.next PQ.body) ?_
  refine D.take 51 (y_pick rfl rfl (fun _ => rfl) (fun h => by cases h)) rfl rfl rfl rfl (by kernel_rfl) (by kernel_rfl) (by kernel_rfl) (PQ.next PQ.body) ?_
  refine D.take 52 (y_move rfl rfl) rfl rfl rfl rfl (by kernel_rfl) (by kernel_rfl) (by kernel_rfl) (PQ.next PQ.body) ?_
  refine D.takeG 53 (y_move rfl rfl) rfl rfl rfl rfl rfl rfl rfl (by kernel_rfl) (by kernel_rfl) (by kernel_rfl) (PQ.next PQ.body) ?_
  refine D.takeG 54 (y_len rfl Tryd.underlying22 rfl) rfl rfl rfl rfl rfl rfl rfl (by kernel_rfl) (by kernel_rfl) (by kernel_rfl) (PQ.next PQ.body) ?_
  refine D.takeG 55 ((y_eq rfl rfl rfl).to rfl) rfl rfl rfl rfl rfl rfl rfl (by kernel_rfl) (by kernel_rfl) (by kernel_rfl) (PQ.next PQ.body) ?_
  refine D.take 56 (y_pick rfl rfl (fun _ => rfl) (fun h => by cases h)) rfl rfl rfl rfl (by kernel_rfl) (by kernel_rfl) (by kernel_rfl) (PQ.next PQ.body) ?_
  refine D.take 57 (y_move rfl rfl) rfl rfl rfl rfl (by kernel_rfl) (by kernel_rfl) (by kernel_rfl) (PQ.next PQ.body) ?_
  refine D.takeG 58 (y_move rfl rfl) rfl rfl rfl rfl rfl rfl rfl (by kernel_rfl) (by kernel_rfl) (by kernel_rfl) (PQ.next PQ.body) ?_
  refine D.takeG 61 (y_lbW 0 rfl Tb.ag30 Tb.sz30 (hcl _) rfl rfl) rfl rfl rfl rfl rfl rfl rfl (by kernel_rfl) (by kernel_rfl) (by kernel_rfl) (PQ.next PQ.body) ?_
  refine D.takeG 62 (y_move rfl rfl) rfl rfl rfl rfl rfl rfl rfl (by kernel_rfl) (by kernel_rfl) (by kernel_rfl) (PQ.next PQ.body) ?_
  refine D.takeG 59 (y_cuttoN (n := 5) 4 rfl Tryd.underlying22 Tb.sz30 rfl rfl rfl (by omega)) rfl rfl rfl rfl rfl rfl rfl (by kernel_rfl) (by kernel_rfl) (by kernel_rfl) (PQ.next PQ.body) ?_
  refine D.ofJ 60 (by kernel_rfl) rfl fun KhK20 hK20 => ?_
  refine J.gon rfl rfl rfl rfl ?_
  refine J.callv rfl rfl rfl rfl Tb.cl30 rfl (root_spec [a, b, c, d] A 4 k rfl (by omega) (by omega) (fun w h => (ckrow 5 rfl h : Sl w A (hcs [a, b, c, d, e])).htake 4)) ?_
  refine J.nil ?_
  refine hK20 _ _ _ (fun w hs => hs.mask [false, false, true, true, true, true]) ?_
  refine D.ofJ 63 (by kernel_rfl) rfl fun KhK22 hK22 => ?_
  refine J.gon rfl rfl rfl rfl ?_
  refine J.callv rfl rfl rfl rfl Tb.cl27 rfl ((check_fn 4 5 (root [a, b, c, d]) (root [a, b, c, d, e]) [e] A4 1 k4 rfl hk4 (fun w h => ckrow 3 rfl h)).to (by rw [hcA])) ?_
  refine J.nil ?_
  refine hK22 _ _ _ (fun w hs => hs.mask [false, false, true, true, true, true]) ?_
  refine D.takeG 64 ((y_eq rfl rfl rfl).to rfl) rfl rfl rfl rfl rfl rfl rfl (by kernel_rfl) (by kernel_rfl) (by kernel_rfl) (PQ.next PQ.body) ?_
  refine D.take 65 (y_pick rfl rfl (fun _ => rfl) (fun h => by cases h)) rfl rfl rfl rfl (by kernel_rfl) (by kernel_rfl) (by kernel_rfl) (PQ.next PQ.body) ?_
  refine D.take 66 (y_move rfl rfl) rfl rfl rfl rfl (by kernel_rfl) (by kernel_rfl) (by kernel_rfl) (PQ.next PQ.body) ?_
  refine D.takeG 67 (y_move rfl rfl) rfl rfl rfl rfl rfl rfl rfl (by kernel_rfl) (by kernel_rfl) (by kernel_rfl) (PQ.next PQ.body) ?_
  refine D.takeG 70 (y_lbW 0 rfl Tb.ag30 Tb.sz30 (hcl _) rfl rfl) rfl rfl rfl rfl rfl rfl rfl (by kernel_rfl) (by kernel_rfl) (by kernel_rfl) (PQ.next PQ.body) ?_
  refine D.takeG 71 (y_move rfl rfl) rfl rfl rfl rfl rfl rfl rfl (by kernel_rfl) (by kernel_rfl) (by kernel_rfl) (PQ.next PQ.body) ?_
  refine D.takeG 68 (y_cuttoN (n := 5) 3 rfl Tryd.underlying22 Tb.sz30 rfl rfl rfl (by omega)) rfl rfl rfl rfl rfl rfl rfl (by kernel_rfl) (by kernel_rfl) (by kernel_rfl) (PQ.next PQ.body) ?_
  refine D.ofJ 69 (by kernel_rfl) rfl fun KhK24 hK24 => ?_
  refine J.gon rfl rfl rfl rfl ?_
  refine J.callv rfl rfl rfl rfl Tb.cl30 rfl (root_spec [a, b, c] A 3 k rfl (by omega) (by omega) (fun w h => (ckrow 5 rfl h : Sl w A (hcs [a, b, c, d, e])).htake 3)) ?_
  refine J.nil ?_
  refine hK24 _ _ _ (fun w hs => hs.mask [false, false, true, true, true, true]) ?_
  refine D.ofJ 72 (by kernel_rfl) rfl fun KhK26 hK26 => ?_
  refine J.gon rfl rfl rfl rfl ?_
  refine J.callv rfl rfl rfl rfl Tb.cl27 rfl ((check_fn 3 5 (root [a, b, c]) (root [a, b, c, d, e]) [e] A4 1 k4 rfl hk4 (fun w h => ckrow 3 rfl h)).to (by rw [hcB])) ?_
  refine J.nil ?_
  refine hK26 _ _ _ (fun w hs => hs.mask [false, false, true, true, true, true]) ?_
  refine D.takeG 73 (y_eq rfl rfl rfl) rfl rfl rfl rfl rfl rfl rfl (by kernel_rfl) (by kernel_rfl) (by kernel_rfl) (PQ.next PQ.body) ?_
  refine D.take 74 (y_pick rfl rfl (fun _ => rfl) (fun h => by cases h)) rfl rfl rfl rfl (by kernel_rfl) (by kernel_rfl) (by kernel_rfl) (PQ.next PQ.body) ?_
  refine D.take 75 (y_assign rfl rfl) rfl rfl rfl rfl (by kernel_rfl) (by kernel_rfl) (by kernel_rfl) (PQ.next PQ.body) ?_
  refine D.done (by kernel_rfl) ?_
  refine JQ.next hK9 ?_
  refine JC.ret ?_
  exact ret1 rfl (r_tmp rfl) fun w hs => Post.pure hs
end Go.Proofs.YtjkfeonbioccmaaDoor
namespace Go.Proofs.YtjkfeonbioccmaaDoor
open Go Go.Sx Go.RowKit
set_option linter.unusedVariables false
set_option linter.unusedSimpArgs false
set_option maxRecDepth 100000
set_option maxHeartbeats 1000000
variable {Gl F : World → Prop}
theorem law_ProofsProof (l : List H) (m : Int) (A : Option Addr) (n k : Nat) (hn : l.length = n) (hk : n ≤ k) (hA : ∀ w, F w → Sl w A (hcs l)) : PureFn Tryd.prog Gs 3 [.slice A n k, .int .i64 m] F (.bool true) := by
  refine FnSpec.intro Tryd.func3 rfl Tryd.ntmps3 rfl fun X M w => ?_
  refine JC.seq fun K1 hK1 => ?_
  refine JC.region ?_
  refine J.yl (y_assign rfl rfl) rfl rfl rfl ?_
  refine J.nil ?_
  refine JQ.next hK1 ?_
  refine JC.seq fun K2 hK2 => ?_
  refine JC.seq fun K3 hK3 => ?_
  refine JC.region ?_
  refine J.yl (y_move rfl rfl) rfl rfl rfl ?_
  refine J.yl (y_len rfl Tryd.underlying22 rfl) rfl rfl rfl ?_
  refine J.yl (y_gt rfl rfl rfl) rfl rfl rfl ?_
  refine J.nil ?_
  refine JQ.next hK3 ?_
  refine JC.condp rfl (fun h1 => ?_) (fun h1 => ?_)
  · refine JC.seq fun K4 hK4 => ?_
    refine JC.region ?_
    refine J.callv rfl rfl rfl rfl Tb.cl23 rfl (proved_fn) ?_
    refine J.yl (y_assign rfl rfl) rfl rfl rfl ?_
    refine J.nil ?_
    refine JQ.next hK4 ?_
    refine JC.ret ?_
    refine JQ.then_ret ?_
    exact ret1 rfl (r_tmp rfl) fun w hs => Post.pure hs
  · refine JC.skip ?_
    refine JQ.next hK2 ?_
    refine JC.seq fun K5 hK5 => ?_
    refine JC.seq fun K6 hK6 => ?_
    refine JC.region ?_
    refine J.yl (y_assign rfl rfl) rfl rfl rfl ?_
    refine J.nil ?_
    refine JQ.next hK6 ?_
    refine JC.block ?_
    refine JC.loopE (σ := Nat) (M := fun q => [(5, .int .i64 ((q : Int) - 1))]) (kp := [(0, _), (1, _)]) (hkp := (okE_cons rfl (okE_cons rfl okE_nil))) (Dc := fun _ => []) (H := fun _ => F) (Ψ := fun q => q ≤ n + 4) (μ := fun q => n + 4 - q) 0 (by omega) (okE_cons rfl okE_nil) (fun w h => h) (fun i hi K7 againK7 => ?_)
    refine JC.seq fun K8 hK8 => ?_
    refine JC.seq fun K9 hK9 => ?_
    refine JC.region ?_
    refine J.yl (y_move rfl rfl) rfl rfl rfl ?_
    refine J.yl (y_move rfl rfl) rfl rfl rfl ?_
    refine J.yl (y_len rfl Tryd.underlying22 rfl) rfl rfl rfl ?_
    refine J.yl (y_add64 rfl rfl rfl (by omega)) rfl rfl rfl ?_
    refine J.yl (y_le rfl rfl rfl) rfl rfl rfl ?_
    refine J.nil ?_
    refine JQ.next hK9 ?_
    refine JC.condp rfl (fun h2 => ?_) (fun h2 => ?_)
    · refine JC.skip ?_
      refine JQ.next hK8 ?_
      refine JC.seq fun K10 hK10 => ?_
      refine JC.block ?_
      refine JC.seq fun K11 hK11 => ?_
      refine JC.region ?_
      refine J.yl (y_move rfl rfl) rfl rfl rfl ?_
      refine J.yl (y_assign rfl rfl) rfl rfl rfl ?_
      refine J.nil ?_
      refine JQ.next hK11 ?_
      refine JC.seq fun K12 hK12 => ?_
      refine JC.seq fun K13 hK13 => ?_
      refine JC.region ?_
      refine J.yl (y_move rfl rfl) rfl rfl rfl ?_
      refine J.yl (y_move rfl rfl) rfl rfl rfl ?_
      refine J.yl (y_len rfl Tryd.underlying22 rfl) rfl rfl rfl ?_
      refine J.yl (y_add64 rfl rfl rfl (by omega)) rfl rfl rfl ?_
      refine J.yl (y_eq rfl rfl rfl) rfl rfl rfl ?_
      refine J.nil ?_
      refine JQ.next hK13 ?_
      refine JC.cutE (σ := Int × Unit) (M := fun q => [(6, .int .i64 q.1)]) (kp := [(0, _), (1, _), (5, _)]) (hkp := (okE_cons rfl (okE_cons rfl (okE_cons rfl okE_nil)))) (Dc := fun _ => []) (H := fun _ => F) (Ψ := fun _ => True) (fun K14 againK14 => ?_) (fun sK14 hK14 => ?_)
      · refine JC.condp rfl (fun h3 => ?_) (fun h3 => ?_)
        · refine JC.region ?_
          refine J.yl (y_move rfl rfl) rfl rfl rfl ?_
          refine J.yl (y_assign rfl rfl) rfl rfl rfl ?_
          refine J.nil ?_
          refine againK14 (m, ()) _ trivial (okE_cons rfl okE_nil) (okE_cons rfl (okE_cons rfl (okE_cons rfl okE_nil)))
        · refine JC.skip ?_
          refine againK14 ((i : Int) - 1, ()) _ trivial (okE_cons rfl okE_nil) (okE_cons rfl (okE_cons rfl (okE_cons rfl okE_nil)))
      · obtain ⟨z, u⟩ := sK14
        dsimp only at hK14 ⊢
        obtain _ := hK14
        refine JQ.next hK12 ?_
        refine JC.seq fun K15 hK15 => ?_
        refine JC.region ?_
        refine J.yl (y_move rfl rfl) rfl rfl rfl ?_
        refine J.yl (y_move rfl rfl) rfl rfl rfl ?_
        refine J.callR (Cin := []) rfl rfl rfl rfl Tb.cl24 rfl rfl (proof_fn l z A n k hn hk (by omega) (fun w h => hA w h.1)) ?_
        rintro ⟨A1, k1⟩ hk1
        refine J.yl (y_move rfl rfl) rfl rfl rfl ?_
        refine J.yl (y_extract rfl rfl rfl) rfl rfl rfl ?_
        refine J.yl (y_extract rfl rfl rfl) rfl rfl rfl ?_
        refine J.yl (y_assign rfl rfl) rfl rfl rfl ?_
        refine J.yl (y_assign rfl rfl) rfl rfl rfl ?_
        refine J.nil ?_
        refine JQ.next hK15 ?_
        refine JC.seq fun K16 hK16 => ?_
        refine JC.region ?_
        refine J.yl (y_move rfl rfl) rfl rfl rfl ?_
        refine J.yl (y_move rfl rfl) rfl rfl rfl ?_
        refine J.callR (Cin := []) rfl rfl rfl rfl Tb.cl25 rfl rfl (rproof_fn l z A n k hn hk (by omega) (fun w h => hA w h.1)) ?_
        rintro ⟨A2, k2⟩ ⟨hk2, hl2⟩
        refine J.yl (y_move rfl rfl) rfl rfl rfl ?_
        refine J.yl (y_extract rfl rfl rfl) rfl rfl rfl ?_
        refine J.yl (y_extract rfl rfl rfl) rfl rfl rfl ?_
        refine J.yl (y_assign rfl rfl) rfl rfl rfl ?_
        refine J.yl (y_assign rfl rfl) rfl rfl rfl ?_
        refine J.nil ?_
        refine JQ.next hK16 ?_
        refine JC.seq fun K17 hK17 => ?_
        refine JC.region ?_
        refine J.yl (y_move rfl rfl) rfl rfl rfl ?_
        refine J.yl (y_move rfl rfl) rfl rfl rfl ?_
        refine J.callv rfl rfl rfl rfl Tb.cl26 rfl ((same_fn (prf l z) (prf l z) _ _ _ _ _ _ rfl rfl (by omega) (fun w h => ckrow 1 rfl h) (fun w h => ckrow 0 rfl h)).to (by rw [decide_eq_true rfl])) ?_
        refine J.yl ((y_not rfl rfl).to rfl) rfl rfl rfl ?_
        refine J.yl (y_move rfl rfl) rfl rfl rfl ?_
        refine J.gyes (y_move rfl rfl) rfl rfl rfl rfl rfl rfl ?_
        refine J.gyes (y_move rfl rfl) rfl rfl rfl rfl rfl rfl ?_
        refine J.gyes (y_ne rfl rfl rfl) rfl rfl rfl rfl rfl rfl ?_
        refine J.yl (y_pick rfl rfl (fun h => by cases h) (fun _ => rfl)) rfl rfl rfl ?_
        refine J.nil ?_
        refine JQ.next hK17 ?_
        refine JC.condn rfl (fun h4 => ?_) (fun h4 => ?_)
        · exact absurd rfl h4
        · refine JC.skip ?_
          refine JQ.block_normal (JQ.next hK10 ?_)
          refine JC.region ?_
          refine J.yl (y_move rfl rfl) rfl rfl rfl ?_
          refine J.yl (y_add64 rfl rfl rfl (by omega)) rfl rfl rfl ?_
          refine J.yl (y_assign rfl rfl) rfl rfl rfl ?_
          refine J.nil ?_
          refine JQ.drop ?_
          refine JQ.drop ?_
          refine againK7 (i + 1) _ (by omega) (by omega) (okE_cons (slotI (by omega)) okE_nil) (okE_cons rfl (okE_cons rfl okE_nil))
    · refine JC.exit ?_
      refine JQ.then_exit (JQ.then_exit (JQ.block_hit (JQ.next hK5 ?_)))
      refine JC.seq fun K18 hK18 => ?_
      refine JC.region ?_
      refine J.callv rfl rfl rfl rfl Tb.cl23 rfl (proved_fn) ?_
      refine J.yl (y_assign rfl rfl) rfl rfl rfl ?_
      refine J.nil ?_
      refine JQ.next hK18 ?_
      refine JC.ret ?_
      exact ret1 rfl (r_tmp rfl) fun w hs => Post.pure hs
end Go.Proofs.YtjkfeonbioccmaaDoor
