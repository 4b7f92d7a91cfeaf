/- Speculum proofs: ProofsCheck, walked: whether any sizes, roots and hashes check is the document's. -/
import Derived.Test.YtjkfeonbioccmaaDoorFg
import Derived.Test.YtjkfeonbioccmaaDoorSxY
namespace Go.Proofs.YtjkfeonbioccmaaDoor
open Go Go.Sx Go.RowKit
set_option linter.unusedVariables false
set_option linter.unusedSimpArgs false
set_option maxRecDepth 100000
set_option maxHeartbeats 4000000
variable {Gl F : World → Prop}
theorem rproof_fnE (l : List H) (m : Int) (q : List H) (hq : prf l m = q) (A : Option Addr) (n k : Nat) (hn : l.length = n) (hk : n ≤ k) (hM : n ≤ 100000) (hA : ∀ w, F w → Sl w A (hcs l)) :
    FnSpec Tryd.prog Gl 25 [.slice A n k, .int .i64 m] [] F (ι := Option Addr × Nat) (fun i => q.length ≤ i.2 ∧ q.length ≤ n) (fun i => .tuple #[.slice i.1 q.length i.2, .int .i64 (prfE l m)]) (OwnL q) (fun _ _ => True) := by
  subst hq; exact rproof_fn l m A n k hn hk hM hA
/-- The cells of a claim: two sizes, two roots. -/
def clC (M N : Int) (a b : H) : List Value := .int .i64 M :: .int .i64 N :: (hc a ++ hc b)
theorem clO (M N : Int) (a b : H) : ((clC M N a b).drop 2).take (hc a).length = hc a := by
  show (hc a ++ hc b).take (hc a).length = hc a
  rw [List.take_left]
theorem clN (M N : Int) (a b : H) : ((clC M N a b).drop 34).take (hc b).length = hc b := by
  show ((hc a ++ hc b).drop 32).take (hc b).length = hc b
  rw [List.drop_left' (hcl a), List.take_length]
theorem law_ProofsCheck (cm cn : Int) (older newer : H) (p : List H) (A : Option Addr) (j k : Nat) (hj : p.length = j) (hk : j ≤ k) (hA : ∀ w, F w → Sl w A (hcs p)) : PureFn Tryd.prog Gs 4 [.agg (clC cm cn older newer).toArray, .slice A j k] F (.bool true) := by
  refine FnSpec.intro Tryd.func4 rfl Tryd.ntmps4 rfl fun X M w => ?_
  refine JC.seq fun K1 hK1 => ?_
  refine JC.region ?_
  refine J.box rfl rfl rfl rfl rfl rfl fun g2 => ?_
  refine J.yl (y_assign rfl rfl) rfl rfl rfl ?_
  refine J.nil ?_
  refine JQ.next hK1 ?_
  refine JC.seq fun K2 hK2 => ?_
  refine JC.seq fun K3 hK3 => ?_
  refine JC.region ?_
  refine J.yl (y_move rfl rfl) rfl rfl rfl ?_
  refine J.yl (y_len rfl Tryd.underlying22 rfl) rfl rfl rfl ?_
  refine J.yl (y_gt rfl rfl rfl) rfl rfl rfl ?_
  refine J.nil ?_
  refine JQ.next hK3 ?_
  refine JC.condp rfl (fun h1 => ?_) (fun h1 => ?_)
  · refine JC.seq fun K4 hK4 => ?_
    refine JC.region ?_
    refine J.callv rfl rfl rfl rfl Tb.cl23 rfl (proved_fn) ?_
    refine J.yl (y_assign rfl rfl) rfl rfl rfl ?_
    refine J.nil ?_
    refine JQ.next hK4 ?_
    refine JC.ret ?_
    refine JQ.then_ret ?_
    exact ret1 rfl (r_tmp rfl) fun w hs => Post.pure hs
  · refine JC.skip ?_
    refine JQ.next hK2 ?_
    refine JC.seq fun K5 hK5 => ?_
    refine JC.seq fun K6 hK6 => ?_
    refine JC.drawM [true] (by kernel_rfl) ?_
    refine D.take 0 (y_fb rfl Tb.fo32_0 rfl) rfl rfl rfl rfl (by kernel_rfl) (by kernel_rfl) (by kernel_rfl) (PQ.next (PQ.next PQ.body)) ?_
    refine D.take 1 (y_lb 0 rfl Tb.ag3 rfl rfl rfl) rfl rfl rfl rfl (by kernel_rfl) (by kernel_rfl) (by kernel_rfl) (PQ.next (PQ.next PQ.body)) ?_
    refine D.take 2 (y_fb rfl Tb.fo32_1 rfl) rfl rfl rfl rfl (by kernel_rfl) (by kernel_rfl) (by kernel_rfl) (PQ.next (PQ.next PQ.body)) ?_
    refine D.take 3 (y_lb 0 rfl Tb.ag3 rfl rfl rfl) rfl rfl rfl rfl (by kernel_rfl) (by kernel_rfl) (by kernel_rfl) (PQ.next (PQ.next PQ.body)) ?_
    refine D.take 4 (y_fb rfl Tb.fo32_2 rfl) rfl rfl rfl rfl (by kernel_rfl) (by kernel_rfl) (by kernel_rfl) (PQ.next (PQ.next PQ.body)) ?_
    refine D.take 6 (y_fb rfl Tb.fo32_3 rfl) rfl rfl rfl rfl (by kernel_rfl) (by kernel_rfl) (by kernel_rfl) (PQ.next (PQ.next PQ.body)) ?_
    refine D.take 8 (y_move rfl rfl) rfl rfl rfl rfl (by kernel_rfl) (by kernel_rfl) (by kernel_rfl) (PQ.next (PQ.next PQ.body)) ?_
    refine D.take 10 (y_fb rfl Tb.fo32_0 rfl) rfl rfl rfl rfl (by kernel_rfl) (by kernel_rfl) (by kernel_rfl) (PQ.next (PQ.next PQ.body)) ?_
    refine D.take 11 (y_lb 0 rfl Tb.ag3 rfl rfl rfl) rfl rfl rfl rfl (by kernel_rfl) (by kernel_rfl) (by kernel_rfl) (PQ.next (PQ.next PQ.body)) ?_
    refine D.take 12 (y_fb rfl Tb.fo32_1 rfl) rfl rfl rfl rfl (by kernel_rfl) (by kernel_rfl) (by kernel_rfl) (PQ.next (PQ.next PQ.body)) ?_
    refine D.take 13 (y_lb 0 rfl Tb.ag3 rfl rfl rfl) rfl rfl rfl rfl (by kernel_rfl) (by kernel_rfl) (by kernel_rfl) (PQ.next (PQ.next PQ.body)) ?_
    refine D.take 14 (y_fb rfl Tb.fo32_2 rfl) rfl rfl rfl rfl (by kernel_rfl) (by kernel_rfl) (by kernel_rfl) (PQ.next (PQ.next PQ.body)) ?_
    refine D.take 16 (y_fb rfl Tb.fo32_3 rfl) rfl rfl rfl rfl (by kernel_rfl) (by kernel_rfl) (by kernel_rfl) (PQ.next (PQ.next PQ.body)) ?_
    refine D.take 18 (y_move rfl rfl) rfl rfl rfl rfl (by kernel_rfl) (by kernel_rfl) (by kernel_rfl) (PQ.next (PQ.next PQ.body)) ?_
    refine D.take 5 (y_lbA (vs := hc older) 0 rfl Tb.ag30 (by rw [hcl]; exact Tb.sz30) rfl rfl (clO cm cn older newer)) rfl rfl rfl rfl (by kernel_rfl) (by kernel_rfl) (by kernel_rfl) (PQ.next (PQ.next PQ.body)) ?_
    refine D.take 7 (y_lbA (vs := hc newer) 0 rfl Tb.ag30 (by rw [hcl]; exact Tb.sz30) rfl rfl (clN cm cn older newer)) rfl rfl rfl rfl (by kernel_rfl) (by kernel_rfl) (by kernel_rfl) (PQ.next (PQ.next PQ.body)) ?_
    refine D.take 15 (y_lbA (vs := hc older) 0 rfl Tb.ag30 (by rw [hcl]; exact Tb.sz30) rfl rfl (clO cm cn older newer)) rfl rfl rfl rfl (by kernel_rfl) (by kernel_rfl) (by kernel_rfl) (PQ.next (PQ.next PQ.body)) ?_
    refine D.take 17 (y_lbA (vs := hc newer) 0 rfl Tb.ag30 (by rw [hcl]; exact Tb.sz30) rfl rfl (clN cm cn older newer)) rfl rfl rfl rfl (by kernel_rfl) (by kernel_rfl) (by kernel_rfl) (PQ.next (PQ.next PQ.body)) ?_
    refine D.ofJ 9 (by kernel_rfl) rfl fun KhK8 hK8 => ?_
    refine J.callv rfl rfl rfl rfl Tb.cl27 rfl (check_fn cm cn older newer p A j k hj hk (fun w h => hA w h.1)) ?_
    refine J.nil ?_
    refine hK8 _ _ _ (fun w hs => hs.mask [true]) ?_
    refine D.ofJ 19 (by kernel_rfl) rfl fun KhK10 hK10 => ?_
    refine J.callv rfl rfl rfl rfl Tb.cl28 rfl (rcheck_fn cm cn older newer p A j k hj hk (by omega) (fun w h => hA w h.1)) ?_
    refine J.nil ?_
    refine hK10 _ _ _ (fun w hs => hs.mask [true]) ?_
    refine D.take 20 (y_ne rfl rfl rfl) rfl rfl rfl rfl (by kernel_rfl) (by kernel_rfl) (by kernel_rfl) (PQ.next (PQ.next PQ.body)) ?_
    refine D.done (by kernel_rfl) ?_
    refine JQ.next hK6 ?_
    refine JC.condn rfl (fun h2 => ?_) (fun h2 => ?_)
    · exact absurd rfl h2
    · refine JC.skip ?_
      refine JQ.next hK5 ?_
      refine JC.seq fun K11 hK11 => ?_
      refine JC.region ?_
      refine J.yl (y_fb rfl Tb.fo32_1 rfl) rfl rfl rfl ?_
      refine J.yl (y_lb 0 rfl Tb.ag3 rfl rfl rfl) rfl rfl rfl ?_
      obtain ⟨n, hn, hn2⟩ : ∃ n, andI cn 127 = n ∧ n ≤ 127 := ⟨_, rfl, andI_le cn 127 (by decide)⟩
      obtain ⟨mm, hmm⟩ : ∃ n, andI cm 127 = n := ⟨_, rfl⟩
      obtain ⟨m, hm, hm2⟩ : ∃ m, mm % (n + 1) = m ∧ m ≤ n := ⟨_, rfl, by have := Nat.mod_lt mm (show 0 < n + 1 by omega); omega⟩
      obtain ⟨seed, hseed⟩ : ∃ s, UInt8.ofNat (cm % 256).toNat = s := ⟨_, rfl⟩
      refine J.yl ((y_andI 127 rfl rfl rfl rfl (by decide)).to (by rw [hn])) rfl rfl rfl ?_
      refine J.yl (y_assign rfl rfl) rfl rfl rfl ?_
      refine J.nil ?_
      refine JQ.next hK11 ?_
      refine JC.seq fun K12 hK12 => ?_
      refine JC.region ?_
      refine J.yl (y_fb rfl Tb.fo32_0 rfl) rfl rfl rfl ?_
      refine J.yl (y_lb 0 rfl Tb.ag3 rfl rfl rfl) rfl rfl rfl ?_
      refine J.yl ((y_andI 127 rfl rfl rfl rfl (by decide)).to (by rw [hmm])) rfl rfl rfl ?_
      refine J.yl (y_move rfl rfl) rfl rfl rfl ?_
      refine J.yl (y_add64 rfl rfl rfl (by omega)) rfl rfl rfl ?_
      refine J.yl (y_rem64 rfl rfl rfl (by omega)) rfl rfl rfl ?_
      refine J.yl (y_assign rfl rfl) rfl rfl rfl ?_
      refine J.nil ?_
      refine JQ.next hK12 ?_
      refine JC.seq fun K13 hK13 => ?_
      refine JC.region ?_
      refine J.yl (y_move rfl rfl) rfl rfl rfl ?_
      refine J.yl (y_fb rfl Tb.fo32_0 rfl) rfl rfl rfl ?_
      refine J.yl (y_lb 0 rfl Tb.ag3 rfl rfl rfl) rfl rfl rfl ?_
      rw [show ((mm : Int) % ((n : Int) + 1)) = (m : Int) from by rw [← hm]; rfl]
      refine J.yl ((y_ito8I rfl (isS Tryd.underlying3) Tryd.underlying5 rfl).to (by rw [hseed])) rfl rfl rfl ?_
      refine J.callR (Cin := []) rfl rfl rfl rfl Tb.cl29 rfl rfl (some_fnE n n seed (someL n seed) rfl rfl (by omega)) ?_
      rintro ⟨A7, k7⟩ hk7
      refine J.yl (y_assign rfl rfl) rfl rfl rfl ?_
      refine J.nil ?_
      refine JQ.next hK13 ?_
      refine JC.seq fun K14 hK14 => ?_
      refine JC.region ?_
      refine J.yl (y_move rfl rfl) rfl rfl rfl ?_
      refine J.yl (y_move rfl rfl) rfl rfl rfl ?_
      have hlen := length_someL n seed
      generalize someL n seed = l at hlen
      have hroot := chk_prf l m (by omega) (by omega)
      rw [hlen] at hroot
      have hle := prf_le l (m : Int) 7 (by omega)
      generalize hp2 : prf l (m : Int) = p2 at hroot hle
      refine J.callR (Cin := []) rfl rfl rfl rfl Tb.cl25 rfl rfl (rproof_fnE l m p2 hp2 A7 n k7 hlen hk7 (by omega) (fun w h => ckrow 0 rfl h)) ?_
      rintro ⟨A8, k8⟩ ⟨hk8, hl8⟩
      refine J.yl (y_move rfl rfl) rfl rfl rfl ?_
      refine J.yl (y_extract rfl rfl rfl) rfl rfl rfl ?_
      refine J.yl (y_extract rfl rfl rfl) rfl rfl rfl ?_
      refine J.yl (y_assign rfl rfl) rfl rfl rfl ?_
      refine J.yl (y_assign rfl rfl) rfl rfl rfl ?_
      refine J.nil ?_
      refine JQ.next hK14 ?_
      refine JC.seq fun K15 hK15 => ?_
      refine JC.region ?_
      refine J.yl (y_move rfl rfl) rfl rfl rfl ?_
      refine J.yl (y_move rfl rfl) rfl rfl rfl ?_
      have hk8 : p2.length ≤ k8 := hk8
      refine J.yl (y_cuttoN m rfl Tryd.underlying22 Tb.sz30 rfl rfl rfl (by omega)) rfl rfl rfl ?_
      refine J.callv rfl rfl rfl rfl Tb.cl30 rfl (root_spec (l.take m) A7 m k7 (by rw [List.length_take]; omega) (by omega) (by omega) (fun w h => (ckrow 1 rfl h : Sl w A7 (hcs l)).htake m)) ?_
      refine J.yl (y_move rfl rfl) rfl rfl rfl ?_
      refine J.callv rfl rfl rfl rfl Tb.cl30 rfl (root_spec l A7 n k7 hlen hk7 (by omega) (fun w h => ckrow 1 rfl h)) ?_
      refine J.alloc rfl rfl rfl rfl Tb.zz30 rfl fun g10 => ?_
      refine J.alloc rfl rfl rfl rfl Tb.zz30 rfl fun g11 => ?_
      refine J.storeW 1 rfl rfl rfl rfl rfl rfl rfl Tb.sz30 (hcl _) (hcl _) (hc1 _) ?_
      refine J.storeW 0 rfl rfl rfl rfl rfl rfl rfl Tb.sz30 (hcl _) (hcl _) (hc1 _) ?_
      refine J.nil ?_
      refine JQ.next hK15 ?_
      refine JC.seq fun K16 hK16 => ?_
      refine JC.seq fun K17 hK17 => ?_
      refine JC.drawM [true, true, true, true, true] (by kernel_rfl) ?_
      refine D.take 0 (y_move rfl rfl) rfl rfl rfl rfl (by kernel_rfl) (by kernel_rfl) (by kernel_rfl) (PQ.next (PQ.next PQ.body)) ?_
      refine D.take 1 (y_move rfl rfl) rfl rfl rfl rfl (by kernel_rfl) (by kernel_rfl) (by kernel_rfl) (PQ.next (PQ.next PQ.body)) ?_
      refine D.take 2 (y_lbW 1 rfl Tb.ag30 Tb.sz30 (hcl _) rfl rfl) rfl rfl rfl rfl (by kernel_rfl) (by kernel_rfl) (by kernel_rfl) (PQ.next (PQ.next PQ.body)) ?_
      refine D.take 3 (y_lbW 0 rfl Tb.ag30 Tb.sz30 (hcl _) rfl rfl) rfl rfl rfl rfl (by kernel_rfl) (by kernel_rfl) (by kernel_rfl) (PQ.next (PQ.next PQ.body)) ?_
      refine D.take 4 (y_move rfl rfl) rfl rfl rfl rfl (by kernel_rfl) (by kernel_rfl) (by kernel_rfl) (PQ.next (PQ.next PQ.body)) ?_
      refine D.ofJ 5 (by kernel_rfl) rfl fun KhK19 hK19 => ?_
      refine J.callv rfl rfl rfl rfl Tb.cl27 rfl ((check_fn m n (root (l.take m)) (root l) p2 A8 p2.length k8 rfl hk8 (fun w h => ckrow 2 rfl h)).to (by rw [hroot])) ?_
      refine J.nil ?_
      refine hK19 _ _ _ (fun w hs => hs.mask [true, true, true, true, true]) ?_
      refine D.take 6 ((y_ne rfl rfl rfl).to rfl) rfl rfl rfl rfl (by kernel_rfl) (by kernel_rfl) (by kernel_rfl) (PQ.next (PQ.next PQ.body)) ?_
      refine D.take 7 (y_move rfl rfl) rfl rfl rfl rfl (by kernel_rfl) (by kernel_rfl) (by kernel_rfl) (PQ.next (PQ.next PQ.body)) ?_
      refine D.takeG 8 (y_move rfl rfl) rfl rfl rfl rfl rfl rfl rfl (by kernel_rfl) (by kernel_rfl) (by kernel_rfl) (PQ.next (PQ.next PQ.body)) ?_
      refine D.takeG 9 (y_move rfl rfl) rfl rfl rfl rfl rfl rfl rfl (by kernel_rfl) (by kernel_rfl) (by kernel_rfl) (PQ.next (PQ.next PQ.body)) ?_
      refine D.takeG 10 (y_fb rfl Tb.fo32_2 rfl) rfl rfl rfl rfl rfl rfl rfl (by kernel_rfl) (by kernel_rfl) (by kernel_rfl) (PQ.next (PQ.next PQ.body)) ?_
      refine D.takeG 12 (y_lbW 0 rfl Tb.ag30 Tb.sz30 (hcl _) rfl rfl) rfl rfl rfl rfl rfl rfl rfl (by kernel_rfl) (by kernel_rfl) (by kernel_rfl) (PQ.next (PQ.next PQ.body)) ?_
      refine D.takeG 13 (y_move rfl rfl) rfl rfl rfl rfl rfl rfl rfl (by kernel_rfl) (by kernel_rfl) (by kernel_rfl) (PQ.next (PQ.next PQ.body)) ?_
      refine D.takeG 15 (y_move rfl rfl) rfl rfl rfl rfl rfl rfl rfl (by kernel_rfl) (by kernel_rfl) (by kernel_rfl) (PQ.next (PQ.next PQ.body)) ?_
      refine D.takeG 16 (y_move rfl rfl) rfl rfl rfl rfl rfl rfl rfl (by kernel_rfl) (by kernel_rfl) (by kernel_rfl) (PQ.next (PQ.next PQ.body)) ?_
      refine D.takeG 17 (y_fb rfl Tb.fo32_2 rfl) rfl rfl rfl rfl rfl rfl rfl (by kernel_rfl) (by kernel_rfl) (by kernel_rfl) (PQ.next (PQ.next PQ.body)) ?_
      refine D.takeG 19 (y_lbW 0 rfl Tb.ag30 Tb.sz30 (hcl _) rfl rfl) rfl rfl rfl rfl rfl rfl rfl (by kernel_rfl) (by kernel_rfl) (by kernel_rfl) (PQ.next (PQ.next PQ.body)) ?_
      refine D.takeG 20 (y_move rfl rfl) rfl rfl rfl rfl rfl rfl rfl (by kernel_rfl) (by kernel_rfl) (by kernel_rfl) (PQ.next (PQ.next PQ.body)) ?_
      refine D.takeG 11 (y_lbA (vs := hc older) 4 rfl Tb.ag30 (by rw [hcl]; exact Tb.sz30) rfl rfl (clO cm cn older newer)) rfl rfl rfl rfl rfl rfl rfl (by kernel_rfl) (by kernel_rfl) (by kernel_rfl) (PQ.next (PQ.next PQ.body)) ?_
      refine D.takeG 18 (y_lbA (vs := hc older) 4 rfl Tb.ag30 (by rw [hcl]; exact Tb.sz30) rfl rfl (clO cm cn older newer)) rfl rfl rfl rfl rfl rfl rfl (by kernel_rfl) (by kernel_rfl) (by kernel_rfl) (PQ.next (PQ.next PQ.body)) ?_
      refine D.ofJ 14 (by kernel_rfl) rfl fun KhK21 hK21 => ?_
      refine J.gon rfl rfl rfl rfl ?_
      refine J.callv rfl rfl rfl rfl Tb.cl27 rfl (check_fn m n older (root l) p2 A8 p2.length k8 rfl hk8 (fun w h => ckrow 2 rfl h)) ?_
      refine J.nil ?_
      refine hK21 _ _ _ (fun w hs => hs.mask [true, true, true, true, true]) ?_
      refine D.ofJ 21 (by kernel_rfl) rfl fun KhK23 hK23 => ?_
      refine J.gon rfl rfl rfl rfl ?_
      refine J.callv rfl rfl rfl rfl Tb.cl28 rfl (rcheck_fn m n older (root l) p2 A8 p2.length k8 rfl hk8 (by omega) (fun w h => ckrow 2 rfl h)) ?_
      refine J.nil ?_
      refine hK23 _ _ _ (fun w hs => hs.mask [true, true, true, true, true]) ?_
      refine D.takeG 22 ((y_ne rfl rfl rfl).to (v' := .bool false) (by rw [decide_eq_true rfl]; first | done | rfl)) rfl rfl rfl rfl rfl rfl rfl (by kernel_rfl) (by kernel_rfl) (by kernel_rfl) (PQ.next (PQ.next PQ.body)) ?_
      refine D.take 23 (y_pick rfl rfl (fun h => by cases h) (fun _ => rfl)) rfl rfl rfl rfl (by kernel_rfl) (by kernel_rfl) (by kernel_rfl) (PQ.next (PQ.next PQ.body)) ?_
      refine D.take 24 (y_move rfl rfl) rfl rfl rfl rfl (by kernel_rfl) (by kernel_rfl) (by kernel_rfl) (PQ.next (PQ.next PQ.body)) ?_
      refine D.takeG 25 (y_move rfl rfl) rfl rfl rfl rfl rfl rfl rfl (by kernel_rfl) (by kernel_rfl) (by kernel_rfl) (PQ.next (PQ.next PQ.body)) ?_
      refine D.takeG 26 (y_move rfl rfl) rfl rfl rfl rfl rfl rfl rfl (by kernel_rfl) (by kernel_rfl) (by kernel_rfl) (PQ.next (PQ.next PQ.body)) ?_
      refine D.takeG 27 (y_lbW 1 rfl Tb.ag30 Tb.sz30 (hcl _) rfl rfl) rfl rfl rfl rfl rfl rfl rfl (by kernel_rfl) (by kernel_rfl) (by kernel_rfl) (PQ.next (PQ.next PQ.body)) ?_
      refine D.takeG 28 (y_fb rfl Tb.fo32_3 rfl) rfl rfl rfl rfl rfl rfl rfl (by kernel_rfl) (by kernel_rfl) (by kernel_rfl) (PQ.next (PQ.next PQ.body)) ?_
      refine D.takeG 30 (y_move rfl rfl) rfl rfl rfl rfl rfl rfl rfl (by kernel_rfl) (by kernel_rfl) (by kernel_rfl) (PQ.next (PQ.next PQ.body)) ?_
      refine D.takeG 32 (y_move rfl rfl) rfl rfl rfl rfl rfl rfl rfl (by kernel_rfl) (by kernel_rfl) (by kernel_rfl) (PQ.next (PQ.next PQ.body)) ?_
      refine D.takeG 33 (y_move rfl rfl) rfl rfl rfl rfl rfl rfl rfl (by kernel_rfl) (by kernel_rfl) (by kernel_rfl) (PQ.next (PQ.next PQ.body)) ?_
      refine D.takeG 34 (y_lbW 1 rfl Tb.ag30 Tb.sz30 (hcl _) rfl rfl) rfl rfl rfl rfl rfl rfl rfl (by kernel_rfl) (by kernel_rfl) (by kernel_rfl) (PQ.next (PQ.next PQ.body)) ?_
      refine D.takeG 35 (y_fb rfl Tb.fo32_3 rfl) rfl rfl rfl rfl rfl rfl rfl (by kernel_rfl) (by kernel_rfl) (by kernel_rfl) (PQ.next (PQ.next PQ.body)) ?_
      refine D.takeG 37 (y_move rfl rfl) rfl rfl rfl rfl rfl rfl rfl (by kernel_rfl) (by kernel_rfl) (by kernel_rfl) (PQ.next (PQ.next PQ.body)) ?_
      refine D.takeG 29 (y_lbA (vs := hc newer) 4 rfl Tb.ag30 (by rw [hcl]; exact Tb.sz30) rfl rfl (clN cm cn older newer)) rfl rfl rfl rfl rfl rfl rfl (by kernel_rfl) (by kernel_rfl) (by kernel_rfl) (PQ.next (PQ.next PQ.body)) ?_
      refine D.takeG 36 (y_lbA (vs := hc newer) 4 rfl Tb.ag30 (by rw [hcl]; exact Tb.sz30) rfl rfl (clN cm cn older newer)) rfl rfl rfl rfl rfl rfl rfl (by kernel_rfl) (by kernel_rfl) (by kernel_rfl) (PQ.next (PQ.next PQ.body)) ?_
      refine D.ofJ 31 (by kernel_rfl) rfl fun KhK25 hK25 => ?_
      refine J.gon rfl rfl rfl rfl ?_
      refine J.callv rfl rfl rfl rfl Tb.cl27 rfl (check_fn m n (root (l.take m)) newer p2 A8 p2.length k8 rfl hk8 (fun w h => ckrow 2 rfl h)) ?_
      refine J.nil ?_
      refine hK25 _ _ _ (fun w hs => hs.mask [true, true, true, true, true]) ?_
      refine D.ofJ 38 (by kernel_rfl) rfl fun KhK27 hK27 => ?_
      refine J.gon rfl rfl rfl rfl ?_
      refine J.callv rfl rfl rfl rfl Tb.cl28 rfl (rcheck_fn m n (root (l.take m)) newer p2 A8 p2.length k8 rfl hk8 (by omega) (fun w h => ckrow 2 rfl h)) ?_
      refine J.nil ?_
      refine hK27 _ _ _ (fun w hs => hs.mask [true, true, true, true, true]) ?_
      refine D.takeG 39 ((y_ne rfl rfl rfl).to (v' := .bool false) (by rw [decide_eq_true rfl]; first | done | rfl)) rfl rfl rfl rfl rfl rfl rfl (by kernel_rfl) (by kernel_rfl) (by kernel_rfl) (PQ.next (PQ.next PQ.body)) ?_
      refine D.take 40 (y_pick rfl rfl (fun h => by cases h) (fun _ => rfl)) rfl rfl rfl rfl (by kernel_rfl) (by kernel_rfl) (by kernel_rfl) (PQ.next (PQ.next PQ.body)) ?_
      refine D.take 41 (y_move rfl rfl) rfl rfl rfl rfl (by kernel_rfl) (by kernel_rfl) (by kernel_rfl) (PQ.next (PQ.next PQ.body)) ?_
      refine D.takeG 42 (y_move rfl rfl) rfl rfl rfl rfl rfl rfl rfl (by kernel_rfl) (by kernel_rfl) (by kernel_rfl) (PQ.next (PQ.next PQ.body)) ?_
      refine D.takeG 43 (y_move rfl rfl) rfl rfl rfl rfl rfl rfl rfl (by kernel_rfl) (by kernel_rfl) (by kernel_rfl) (PQ.next (PQ.next PQ.body)) ?_
      refine D.takeG 44 (y_lbW 1 rfl Tb.ag30 Tb.sz30 (hcl _) rfl rfl) rfl rfl rfl rfl rfl rfl rfl (by kernel_rfl) (by kernel_rfl) (by kernel_rfl) (PQ.next (PQ.next PQ.body)) ?_
      refine D.takeG 45 (y_lbW 0 rfl Tb.ag30 Tb.sz30 (hcl _) rfl rfl) rfl rfl rfl rfl rfl rfl rfl (by kernel_rfl) (by kernel_rfl) (by kernel_rfl) (PQ.next (PQ.next PQ.body)) ?_
      refine D.takeG 46 (y_move rfl rfl) rfl rfl rfl rfl rfl rfl rfl (by kernel_rfl) (by kernel_rfl) (by kernel_rfl) (PQ.next (PQ.next PQ.body)) ?_
      refine D.takeG 48 (y_move rfl rfl) rfl rfl rfl rfl rfl rfl rfl (by kernel_rfl) (by kernel_rfl) (by kernel_rfl) (PQ.next (PQ.next PQ.body)) ?_
      refine D.takeG 49 (y_move rfl rfl) rfl rfl rfl rfl rfl rfl rfl (by kernel_rfl) (by kernel_rfl) (by kernel_rfl) (PQ.next (PQ.next PQ.body)) ?_
      refine D.takeG 50 (y_lbW 1 rfl Tb.ag30 Tb.sz30 (hcl _) rfl rfl) rfl rfl rfl rfl rfl rfl rfl (by kernel_rfl) (by kernel_rfl) (by kernel_rfl) (PQ.next (PQ.next PQ.body)) ?_
      refine D.takeG 51 (y_lbW 0 rfl Tb.ag30 Tb.sz30 (hcl _) rfl rfl) rfl rfl rfl rfl rfl rfl rfl (by kernel_rfl) (by kernel_rfl) (by kernel_rfl) (PQ.next (PQ.next PQ.body)) ?_
      refine D.takeG 52 (y_move rfl rfl) rfl rfl rfl rfl rfl rfl rfl (by kernel_rfl) (by kernel_rfl) (by kernel_rfl) (PQ.next (PQ.next PQ.body)) ?_
      refine D.ofJ 47 (by kernel_rfl) rfl fun KhK29 hK29 => ?_
      refine J.gon rfl rfl rfl rfl ?_
      refine J.callv rfl rfl rfl rfl Tb.cl27 rfl (check_fn m n (root (l.take m)) (root l) p A j k hj hk (fun w h => hA w h.1)) ?_
      refine J.nil ?_
      refine hK29 _ _ _ (fun w hs => hs.mask [true, true, true, true, true]) ?_
      refine D.ofJ 53 (by kernel_rfl) rfl fun KhK31 hK31 => ?_
      refine J.gon rfl rfl rfl rfl ?_
      refine J.callv rfl rfl rfl rfl Tb.cl28 rfl (rcheck_fn m n (root (l.take m)) (root l) p A j k hj hk (by omega) (fun w h => hA w h.1)) ?_
      refine J.nil ?_
      refine hK31 _ _ _ (fun w hs => hs.mask [true, true, true, true, true]) ?_
      refine D.takeG 54 (y_ne rfl rfl rfl) rfl rfl rfl rfl rfl rfl rfl (by kernel_rfl) (by kernel_rfl) (by kernel_rfl) (PQ.next (PQ.next PQ.body)) ?_
      refine D.take 55 (y_pick rfl rfl (fun h => by cases h) (fun _ => rfl)) rfl rfl rfl rfl (by kernel_rfl) (by kernel_rfl) (by kernel_rfl) (PQ.next (PQ.next PQ.body)) ?_
      refine D.done (by kernel_rfl) ?_
      refine JQ.next hK17 ?_
      refine JC.condn rfl (fun h3 => ?_) (fun h3 => ?_)
      · exact absurd rfl h3
      · refine JC.skip ?_
        refine JQ.next hK16 ?_
        refine JC.seq fun K32 hK32 => ?_
        refine JC.seq fun K33 hK33 => ?_
        refine JC.region ?_
        refine J.yl (y_assign rfl rfl) rfl rfl rfl ?_
        refine J.nil ?_
        refine JQ.next hK33 ?_
        refine JC.block ?_
        refine JC.loopE (σ := Nat) (M := fun q => [(12, .int .i64 (q : Int))]) (kp := [(2, _), (5, _), (6, _), (8, _), (10, _), (11, _)]) (hkp := (okE_cons rfl (okE_cons rfl (okE_cons rfl (okE_cons rfl (okE_cons rfl (okE_cons rfl okE_nil))))))) (Dc := fun _ => [.box g11 30 (hc (root l)), .box g10 30 (hc (root (l.take m))), .row (.slice A8 p2.length k8) 30 32 p2.length (hcs p2), .row (.slice A7 n k7) 30 32 n (hcs l), .box g2 32 (clC cm cn older newer)]) (H := fun _ => F) (Ψ := fun q => q ≤ p2.length) (μ := fun q => p2.length - q) 0 (by omega) (okE_cons rfl okE_nil) (fun w h => h) (fun i hi K34 againK34 => ?_)
        refine JC.seq fun K35 hK35 => ?_
        refine JC.seq fun K36 hK36 => ?_
        refine JC.region ?_
        refine J.yl (y_move rfl rfl) rfl rfl rfl ?_
        refine J.yl (y_move rfl rfl) rfl rfl rfl ?_
        refine J.yl (y_len rfl Tryd.underlying22 rfl) rfl rfl rfl ?_
        refine J.yl (y_lt rfl rfl rfl) rfl rfl rfl ?_
        refine J.nil ?_
        refine JQ.next hK36 ?_
        refine JC.condp rfl (fun h4 => ?_) (fun h4 => ?_)
        · refine JC.skip ?_
          refine JQ.next hK35 ?_
          refine JC.seq fun K37 hK37 => ?_
          refine JC.block ?_
          refine JC.seq fun K38 hK38 => ?_
          refine JC.region ?_
          refine J.yl (y_move rfl rfl) rfl rfl rfl ?_
          refine J.appNil (hcs p2) rfl rfl rfl rfl rfl rfl Tryd.underlying22 Tb.zz30 Tb.sz30 Tb.by30 rfl (by decide) (length_hcs p2) (fun w hs => strow hs 2 rfl) (hcs1 p2) (by omega) (by decide) fun A2 k2 hk2 => ?_
          refine J.yl (y_assign rfl rfl) rfl rfl rfl ?_
          refine J.nil ?_
          refine JQ.next hK38 ?_
          refine JC.seq fun K39 hK39 => ?_
          refine JC.region ?_
          refine J.yl (y_move rfl rfl) rfl rfl rfl ?_
          refine J.yl (y_move rfl rfl) rfl rfl rfl ?_
          refine J.yl (y_fb rfl Tb.fo32_2 rfl) rfl rfl rfl ?_
          refine J.yl (y_lbA (vs := hc older) 5 rfl Tb.ag30 (by rw [hcl]; exact Tb.sz30) rfl rfl (clO cm cn older newer)) rfl rfl rfl ?_
          refine J.yl (y_hidx i rfl Tryd.underlying22 Tb.sz30 rfl rfl rfl rfl (by omega) (fun w hs => strow hs 0 rfl)) rfl rfl rfl ?_
          refine J.storeR (vs := hc older) (xs' := hcs (p2.set i older)) 0 rfl rfl rfl rfl rfl rfl rfl (by rw [hcl]; exact Tb.sz30) (by rw [hcl, length_hcs]; omega) (by intro e; have := congrArg List.length e; rw [hcl] at this; cases this) (hc1 older) (hcs_set p2 i older (by omega)) ?_
          refine J.nil ?_
          refine JQ.next hK39 ?_
          refine JC.seq fun K40 hK40 => ?_
          refine JC.drawM [true, true, true, true, true, true] (by kernel_rfl) ?_
          refine D.take 0 (y_move rfl rfl) rfl rfl rfl rfl (by kernel_rfl) (by kernel_rfl) (by kernel_rfl) (PQ.next (PQ.block (PQ.next (PQ.next (PQ.block (PQ.next PQ.body)))))) ?_
          refine D.take 1 (y_move rfl rfl) rfl rfl rfl rfl (by kernel_rfl) (by kernel_rfl) (by kernel_rfl) (PQ.next (PQ.block (PQ.next (PQ.next (PQ.block (PQ.next PQ.body)))))) ?_
          refine D.take 2 (y_lbW 2 rfl Tb.ag30 Tb.sz30 (hcl _) rfl rfl) rfl rfl rfl rfl (by kernel_rfl) (by kernel_rfl) (by kernel_rfl) (PQ.next (PQ.block (PQ.next (PQ.next (PQ.block (PQ.next PQ.body)))))) ?_
          refine D.take 3 (y_lbW 1 rfl Tb.ag30 Tb.sz30 (hcl _) rfl rfl) rfl rfl rfl rfl (by kernel_rfl) (by kernel_rfl) (by kernel_rfl) (PQ.next (PQ.block (PQ.next (PQ.next (PQ.block (PQ.next PQ.body)))))) ?_
          refine D.take 4 (y_move rfl rfl) rfl rfl rfl rfl (by kernel_rfl) (by kernel_rfl) (by kernel_rfl) (PQ.next (PQ.block (PQ.next (PQ.next (PQ.block (PQ.next PQ.body)))))) ?_
          refine D.take 6 (y_move rfl rfl) rfl rfl rfl rfl (by kernel_rfl) (by kernel_rfl) (by kernel_rfl) (PQ.next (PQ.block (PQ.next (PQ.next (PQ.block (PQ.next PQ.body)))))) ?_
          refine D.take 7 (y_move rfl rfl) rfl rfl rfl rfl (by kernel_rfl) (by kernel_rfl) (by kernel_rfl) (PQ.next (PQ.block (PQ.next (PQ.next (PQ.block (PQ.next PQ.body)))))) ?_
          refine D.take 8 (y_lbW 2 rfl Tb.ag30 Tb.sz30 (hcl _) rfl rfl) rfl rfl rfl rfl (by kernel_rfl) (by kernel_rfl) (by kernel_rfl) (PQ.next (PQ.block (PQ.next (PQ.next (PQ.block (PQ.next PQ.body)))))) ?_
          refine D.take 9 (y_lbW 1 rfl Tb.ag30 Tb.sz30 (hcl _) rfl rfl) rfl rfl rfl rfl (by kernel_rfl) (by kernel_rfl) (by kernel_rfl) (PQ.next (PQ.block (PQ.next (PQ.next (PQ.block (PQ.next PQ.body)))))) ?_
          refine D.take 10 (y_move rfl rfl) rfl rfl rfl rfl (by kernel_rfl) (by kernel_rfl) (by kernel_rfl) (PQ.next (PQ.block (PQ.next (PQ.next (PQ.block (PQ.next PQ.body)))))) ?_
          refine D.ofJ 5 (by kernel_rfl) rfl fun KhK42 hK42 => ?_
          refine J.callv rfl rfl rfl rfl Tb.cl27 rfl (check_fn m n (root (l.take m)) (root l) (p2.set i older) A2 p2.length k2 (by rw [List.length_set]) hk2 (fun w h => ckrow 0 rfl h)) ?_
          refine J.nil ?_
          refine hK42 _ _ _ (fun w hs => hs.mask [true, true, true, true, true, true]) ?_
          refine D.ofJ 11 (by kernel_rfl) rfl fun KhK44 hK44 => ?_
          refine J.callv rfl rfl rfl rfl Tb.cl28 rfl (rcheck_fn m n (root (l.take m)) (root l) (p2.set i older) A2 p2.length k2 (by rw [List.length_set]) hk2 (by omega) (fun w h => ckrow 0 rfl h)) ?_
          refine J.nil ?_
          refine hK44 _ _ _ (fun w hs => hs.mask [true, true, true, true, true, true]) ?_
          refine D.take 12 (y_ne rfl rfl rfl) rfl rfl rfl rfl (by kernel_rfl) (by kernel_rfl) (by kernel_rfl) (PQ.next (PQ.block (PQ.next (PQ.next (PQ.block (PQ.next PQ.body)))))) ?_
          refine D.done (by kernel_rfl) ?_
          refine JQ.next hK40 ?_
          refine JC.condn rfl (fun h5 => ?_) (fun h5 => ?_)
          · exact absurd rfl h5
          · refine JC.skip ?_
            refine JQ.block_normal (JQ.next hK37 ?_)
            refine JC.region ?_
            refine J.yl (y_move rfl rfl) rfl rfl rfl ?_
            refine J.yl (y_add64 rfl rfl rfl (by omega)) rfl rfl rfl ?_
            refine J.yl (y_assign rfl rfl) rfl rfl rfl ?_
            refine J.nil ?_
            refine JQ.drop ?_
            refine againK34 (i + 1) _ (by omega) (by omega) (okE_cons (slotI (by omega)) okE_nil) (okE_cons rfl (okE_cons rfl (okE_cons rfl (okE_cons rfl (okE_cons rfl (okE_cons rfl okE_nil))))))
        · refine JC.exit ?_
          refine JQ.then_exit (JQ.then_exit (JQ.block_hit (JQ.next hK32 ?_)))
          refine JC.seq fun K45 hK45 => ?_
          refine JC.region ?_
          refine J.callv rfl rfl rfl rfl Tb.cl23 rfl (proved_fn) ?_
          refine J.yl (y_assign rfl rfl) rfl rfl rfl ?_
          refine J.nil ?_
          refine JQ.next hK45 ?_
          refine JC.ret ?_
          exact ret1 rfl (r_tmp rfl) fun w hs => Post.pure hs
end Go.Proofs.YtjkfeonbioccmaaDoor
