/- Speculum proofs: the statements of layer 7, walked. -/
import Derived.Test.YtjkfeonbioccmaaDoorFe
import Derived.Test.YtjkfeonbioccmaaDoorPh
namespace Go.Proofs.YtjkfeonbioccmaaDoor
open Go Go.Sx Go.RowKit
set_option linter.unusedVariables false
set_option linter.unusedSimpArgs false
set_option maxRecDepth 100000
set_option maxHeartbeats 1000000
variable {Gl F : World → Prop}

theorem some_fnE (n : Nat) (a : Int) (seed : UInt8) (q : List H) (hq : someL n seed = q) (ha : a = n) (hn : n ≤ 100000) : FnSpec Tryd.prog Gl 29 [.int .i64 a, u8 seed] [] F (ι := Option Addr × Nat) (fun i => n ≤ i.2) (fun i => .slice i.1 n i.2) (fun i => [.row (.slice i.1 n i.2) 30 32 n (hcs q)]) (fun _ _ => True) := by
  subst hq; exact some_fn n a seed ha hn
theorem proof_fnE (l : List H) (m : Int) (q : List H) (x : Int) (hq : prf l m = q) (hx : prfE l m = x) (A : Option Addr) (n k : Nat) (hn : l.length = n) (hk : n ≤ k) (hM : n ≤ 100000) (hA : ∀ w, F w → Sl w A (hcs l)) :
    FnSpec Tryd.prog Gs 24 [.slice A n k, .int .i64 m] [] F (ι := Option Addr × Nat) (fun i => q.length ≤ i.2) (fun i => .tuple #[.slice i.1 q.length i.2, .int .i64 x]) (OwnL q) (fun _ _ => True) := by
  subst hq; subst hx; exact proof_fn l m A n k hn hk hM hA
theorem proved_fn : PureFn Tryd.prog Gs 23 [] F (.bool true) := by
  obtain ⟨a, b, c, d, e, hl⟩ : ∃ a b c d e, someL 5 2 = [a, b, c, d, e] := ⟨_, _, _, _, _, rfl⟩
  have hcA : chk 4 5 (root [a, b, c, d]) (root [a, b, c, d, e]) [e] = 0 := by
    have := chk_prf [a, b, c, d, e] 4 (by show 4 ≤ 5; omega) (by show 5 ≤ 4096; omega)
    rw [prf5_4] at this; exact this
  have hcB : chk 3 5 (root [a, b, c]) (root [a, b, c, d, e]) [e] = 80 := chk_other [a, b, c, d, e] 3 5 _ _ [e] (by show 3 ≤ 5; omega) rfl (by show 5 ≤ 4096; omega) (by rw [prf5_3]; show 1 ≠ 4; omega)
  refine FnSpec.intro Tryd.func23 rfl Tryd.ntmps23 rfl fun X M w => ?_
  refine JC.seq fun K1 hK1 => ?_
  refine JC.region ?_
  refine J.yl (y_assign rfl rfl) rfl rfl rfl ?_
  refine J.nil ?_
  refine JQ.next hK1 ?_
  refine JC.seq fun K2 hK2 => ?_
  refine JC.region ?_
  refine J.callR (Cin := []) rfl rfl rfl rfl Tb.cl29 rfl rfl (some_fnE 5 5 2 [a, b, c, d, e] hl rfl (by omega)) ?_
  rintro ⟨A, k⟩ hk
  refine J.yl (y_assign rfl rfl) rfl rfl rfl ?_
  refine J.nil ?_
  refine JQ.next hK2 ?_
  refine JC.seq fun K3 hK3 => ?_
  refine JC.region ?_
  refine J.yl (y_move rfl rfl) rfl rfl rfl ?_
  refine J.callR (Cin := []) rfl rfl rfl rfl Tb.cl24 rfl rfl (proof_fnE [a, b, c, d, e] 3 [c, d, node a b, e] 0 (prf5_3 a b c d e) rfl A 5 k rfl hk (by omega) (fun w h => ckrow 0 rfl h)) ?_
  rintro ⟨A3, k3⟩ hk3
  refine J.yl (y_move rfl rfl) rfl rfl rfl ?_
  refine J.yl (y_extract rfl rfl rfl) rfl rfl rfl ?_
  refine J.yl (y_extract rfl rfl rfl) rfl rfl rfl ?_
  refine J.yl (y_assign rfl rfl) rfl rfl rfl ?_
  refine J.yl (y_assign rfl rfl) rfl rfl rfl ?_
  refine J.nil ?_
  refine JQ.next hK3 ?_
  refine JC.seq fun K4 hK4 => ?_
  refine JC.region ?_
  refine J.yl (y_move rfl rfl) rfl rfl rfl ?_
  refine J.callR (Cin := []) rfl rfl rfl rfl Tb.cl24 rfl rfl (proof_fnE [a, b, c, d, e] 4 [e] 0 (prf5_4 a b c d e) rfl A 5 k rfl hk (by omega) (fun w h => ckrow 1 rfl h)) ?_
  rintro ⟨A4, k4⟩ hk4
  refine J.yl (y_move rfl rfl) rfl rfl rfl ?_
  refine J.yl (y_extract rfl rfl rfl) rfl rfl rfl ?_
  refine J.yl (y_extract rfl rfl rfl) rfl rfl rfl ?_
  refine J.yl (y_assign rfl rfl) rfl rfl rfl ?_
  refine J.yl (y_assign rfl rfl) rfl rfl rfl ?_
  refine J.nil ?_
  refine JQ.next hK4 ?_
  refine JC.seq fun K5 hK5 => ?_
  refine JC.region ?_
  refine J.yl (y_move rfl rfl) rfl rfl rfl ?_
  refine J.callR (Cin := []) rfl rfl rfl rfl Tb.cl24 rfl rfl (proof_fnE [a, b, c, d, e] 5 [] 0 (prf5_5 a b c d e) rfl A 5 k rfl hk (by omega) (fun w h => ckrow 2 rfl h)) ?_
  rintro ⟨A5, k5⟩ hk5
  refine J.yl (y_move rfl rfl) rfl rfl rfl ?_
  refine J.yl (y_extract rfl rfl rfl) rfl rfl rfl ?_
  refine J.yl (y_extract rfl rfl rfl) rfl rfl rfl ?_
  refine J.yl (y_assign rfl rfl) rfl rfl rfl ?_
  refine J.yl (y_assign rfl rfl) rfl rfl rfl ?_
  refine J.nil ?_
  refine JQ.next hK5 ?_
  refine JC.seq fun K6 hK6 => ?_
  refine JC.region ?_
  refine J.yl (y_move rfl rfl) rfl rfl rfl ?_
  refine J.drop ?_
  refine J.callR (Cin := []) rfl rfl rfl rfl Tb.cl24 rfl rfl (proof_fnE [a, b, c, d, e] 0 [] 0 (prf_out _ _ (.inl (Int.le_refl _))) rfl A 5 k rfl hk (by omega) (fun w h => ckrow 2 rfl h)) ?_
  rintro ⟨A0, k0⟩ hk0
  refine J.yl (y_move rfl rfl) rfl rfl rfl ?_
  refine J.yl (y_extract rfl rfl rfl) rfl rfl rfl ?_
  refine J.yl (y_extract rfl rfl rfl) rfl rfl rfl ?_
  refine J.yl (y_assign rfl rfl) rfl rfl rfl ?_
  refine J.yl (y_assign rfl rfl) rfl rfl rfl ?_
  refine J.nil ?_
  refine JQ.next hK6 ?_
  refine JC.seq fun K7 hK7 => ?_
  refine JC.region ?_
  refine J.yl (y_move rfl rfl) rfl rfl rfl ?_
  refine J.drop ?_
  refine J.callR (Cin := []) rfl rfl rfl rfl Tb.cl24 rfl rfl (proof_fnE [a, b, c, d, e] 6 [] 2 (prf_out _ _ (.inr (by show (5 : Int) < 6; omega))) rfl A 5 k rfl hk (by omega) (fun w h => ckrow 2 rfl h)) ?_
  rintro ⟨A6, k6⟩ hk6
  refine J.yl (y_move rfl rfl) rfl rfl rfl ?_
  refine J.yl (y_extract rfl rfl rfl) rfl rfl rfl ?_
  refine J.yl (y_extract rfl rfl rfl) rfl rfl rfl ?_
  refine J.yl (y_assign rfl rfl) rfl rfl rfl ?_
  refine J.yl (y_assign rfl rfl) rfl rfl rfl ?_
  refine J.nil ?_
  refine JQ.next hK7 ?_
  refine JC.seq fun K8 hK8 => ?_
  refine JC.region ?_
  refine J.yl (y_move rfl rfl) rfl rfl rfl ?_
  refine J.drop ?_
  refine J.callv rfl rfl rfl rfl Tb.cl30 rfl (root_spec [a, b, c, d, e] A 5 k rfl hk (by omega) (fun w h => ckrow 2 rfl h)) ?_
  refine J.alloc rfl rfl rfl rfl Tb.zz30 rfl fun g12 => ?_
  refine J.storeW 0 rfl rfl rfl rfl rfl rfl rfl Tb.sz30 (hcl _) (hcl _) (hc1 _) ?_
  refine J.nil ?_
  refine JQ.next hK8 ?_
  refine JC.seq fun K9 hK9 => ?_
  refine JC.drawM [true, true, true, true] (by kernel_rfl) ?_
  refine D.take 0 (y_move rfl rfl) rfl rfl rfl rfl (by kernel_rfl) (by kernel_rfl) (by kernel_rfl) (PQ.next PQ.body) ?_
  refine D.take 1 ((y_eq rfl rfl rfl).to rfl) rfl rfl rfl rfl (by kernel_rfl) (by kernel_rfl) (by kernel_rfl) (PQ.next PQ.body) ?_
  refine D.take 2 (y_move rfl rfl) rfl rfl rfl rfl (by kernel_rfl) (by kernel_rfl) (by kernel_rfl) (PQ.next PQ.body) ?_
  refine D.takeG 3 (y_move rfl rfl) rfl rfl rfl rfl rfl rfl rfl (by kernel_rfl) (by kernel_rfl) (by kernel_rfl) (PQ.next PQ.body) ?_
  refine D.takeG 4 ((y_eq rfl rfl rfl).to rfl) rfl rfl rfl rfl rfl rfl rfl (by kernel_rfl) (by kernel_rfl) (by kernel_rfl) (PQ.next PQ.body) ?_
  refine D.take 5 (y_pick rfl rfl (fun _ => rfl) (fun h => by cases h)) rfl rfl rfl rfl (by kernel_rfl) (by kernel_rfl) (by kernel_rfl) (PQ.next PQ.body) ?_
  refine D.take 6 (y_move rfl rfl) rfl rfl rfl rfl (by kernel_rfl) (by kernel_rfl) (by kernel_rfl) (PQ.next PQ.body) ?_
  refine D.takeG 7 (y_move rfl rfl) rfl rfl rfl rfl rfl rfl rfl (by kernel_rfl) (by kernel_rfl) (by kernel_rfl) (PQ.next PQ.body) ?_
  refine D.takeG 8 ((y_eq rfl rfl rfl).to rfl) rfl rfl rfl rfl rfl rfl rfl (by kernel_rfl) (by kernel_rfl) (by kernel_rfl) (PQ.next PQ.body) ?_
  refine D.take 9 (y_pick rfl rfl (fun _ => rfl) (fun h => by cases h)) rfl rfl rfl rfl (by kernel_rfl) (by kernel_rfl) (by kernel_rfl) (PQ.next PQ.body) ?_
  refine D.take 10 (y_move rfl rfl) rfl rfl rfl rfl (by kernel_rfl) (by kernel_rfl) (by kernel_rfl) (PQ.next PQ.body) ?_
  refine D.takeG 11 (y_move rfl rfl) rfl rfl rfl rfl rfl rfl rfl (by kernel_rfl) (by kernel_rfl) (by kernel_rfl) (PQ.next PQ.body) ?_
  refine D.takeG 12 ((y_eq rfl rfl rfl).to rfl) rfl rfl rfl rfl rfl rfl rfl (by kernel_rfl) (by kernel_rfl) (by kernel_rfl) (PQ.next PQ.body) ?_
  refine D.take 13 (y_pick rfl rfl (fun _ => rfl) (fun h => by cases h)) rfl rfl rfl rfl (by kernel_rfl) (by kernel_rfl) (by kernel_rfl) (PQ.next PQ.body) ?_
  refine D.take 14 (y_move rfl rfl) rfl rfl rfl rfl (by kernel_rfl) (by kernel_rfl) (by kernel_rfl) (PQ.next PQ.body) ?_
  refine D.takeG 15 (y_move rfl rfl) rfl rfl rfl rfl rfl rfl rfl (by kernel_rfl) (by kernel_rfl) (by kernel_rfl) (PQ.next PQ.body) ?_
  refine D.takeG 16 ((y_eq rfl rfl rfl).to rfl) rfl rfl rfl rfl rfl rfl rfl (by kernel_rfl) (by kernel_rfl) (by kernel_rfl) (PQ.next PQ.body) ?_
  refine D.take 17 (y_pick rfl rfl (fun _ => rfl) (fun h => by cases h)) rfl rfl rfl rfl (by kernel_rfl) (by kernel_rfl) (by kernel_rfl) (PQ.next PQ.body) ?_
  refine D.take 18 (y_move rfl rfl) rfl rfl rfl rfl (by kernel_rfl) (by kernel_rfl) (by kernel_rfl) (PQ.next PQ.body) ?_
  refine D.takeG 19 (y_move rfl rfl) rfl rfl rfl rfl rfl rfl rfl (by kernel_rfl) (by kernel_rfl) (by kernel_rfl) (PQ.next PQ.body) ?_
  refine D.takeG 20 (y_move rfl rfl) rfl rfl rfl rfl rfl rfl rfl (by kernel_rfl) (by kernel_rfl) (by kernel_rfl) (PQ.next PQ.body) ?_
  refine D.takeG 23 (y_move rfl rfl) rfl rfl rfl rfl rfl rfl rfl (by kernel_rfl) (by kernel_rfl) (by kernel_rfl) (PQ.next PQ.body) ?_
  refine D.takeG 26 (y_move rfl rfl) rfl rfl rfl rfl rfl rfl rfl (by kernel_rfl) (by kernel_rfl) (by kernel_rfl) (PQ.next PQ.body) ?_
  refine D.takeG 29 (y_move rfl rfl) rfl rfl rfl rfl rfl rfl rfl (by kernel_rfl) (by kernel_rfl) (by kernel_rfl) (PQ.next PQ.body) ?_
  refine D.takeG 33 (y_move rfl rfl) rfl rfl rfl rfl rfl rfl rfl (by kernel_rfl) (by kernel_rfl) (by kernel_rfl) (PQ.next PQ.body) ?_
  refine D.takeG 21 (y_hidx (n := 5) (l := [a, b, c, d, e]) 2 rfl Tryd.underlying22 Tb.sz30 rfl rfl rfl rfl (by omega) (fun w hs => strow hs 3 rfl)) rfl rfl rfl rfl rfl rfl rfl (by kernel_rfl) (by kernel_rfl) (by kernel_rfl) (PQ.next PQ.body) ?_
  refine D.takeG 22 (y_hld (l := [a, b, c, d, e]) c rfl Tb.ag30 Tb.sz30 rfl rfl (fun w hs => strow hs 3 rfl)) rfl rfl rfl rfl rfl rfl rfl (by kernel_rfl) (by kernel_rfl) (by kernel_rfl) (PQ.next PQ.body) ?_
  refine D.takeG 24 (y_hidx (n := 5) (l := [a, b, c, d, e]) 3 rfl Tryd.underlying22 Tb.sz30 rfl rfl rfl rfl (by omega) (fun w hs => strow hs 3 rfl)) rfl rfl rfl rfl rfl rfl rfl (by kernel_rfl) (by kernel_rfl) (by kernel_rfl) (PQ.next PQ.body) ?_
  refine D.takeG 25 (y_hld (l := [a, b, c, d, e]) d rfl Tb.ag30 Tb.sz30 rfl rfl (fun w hs => strow hs 3 rfl)) rfl rfl rfl rfl rfl rfl rfl (by kernel_rfl) (by kernel_rfl) (by kernel_rfl) (PQ.next PQ.body) ?_
  refine D.takeG 27 (y_hidx (n := 5) (l := [a, b, c, d, e]) 0 rfl Tryd.underlying22 Tb.sz30 rfl rfl rfl rfl (by omega) (fun w hs => strow hs 3 rfl)) rfl rfl rfl rfl rfl rfl rfl (by kernel_rfl) (by kernel_rfl) (by kernel_rfl) (PQ.next PQ.body) ?_
  refine D.takeG 28 (y_hld (l := [a, b, c, d, e]) a rfl Tb.ag30 Tb.sz30 rfl rfl (fun w hs => strow hs 3 rfl)) rfl rfl rfl rfl rfl rfl rfl (by kernel_rfl) (by kernel_rfl) (by kernel_rfl) (PQ.next PQ.body) ?_
  refine D.takeG 30 (y_hidx (n := 5) (l := [a, b, c, d, e]) 1 rfl Tryd.underlying22 Tb.sz30 rfl rfl rfl rfl (by omega) (fun w hs => strow hs 3 rfl)) rfl rfl rfl rfl rfl rfl rfl (by kernel_rfl) (by kernel_rfl) (by kernel_rfl) (PQ.next PQ.body) ?_
  refine D.takeG 31 (y_hld (l := [a, b, c, d, e]) b rfl Tb.ag30 Tb.sz30 rfl rfl (fun w hs => strow hs 3 rfl)) rfl rfl rfl rfl rfl rfl rfl (by kernel_rfl) (by kernel_rfl) (by kernel_rfl) (PQ.next PQ.body) ?_
  refine D.takeG 34 (y_hidx (n := 5) (l := [a, b, c, d, e]) 4 rfl Tryd.underlying22 Tb.sz30 rfl rfl rfl rfl (by omega) (fun w hs => strow hs 3 rfl)) rfl rfl rfl rfl rfl rfl rfl (by kernel_rfl) (by kernel_rfl) (by kernel_rfl) (PQ.next PQ.body) ?_
  refine D.takeG 35 (y_hld (l := [a, b, c, d, e]) e rfl Tb.ag30 Tb.sz30 rfl rfl (fun w hs => strow hs 3 rfl)) rfl rfl rfl rfl rfl rfl rfl (by kernel_rfl) (by kernel_rfl) (by kernel_rfl) (PQ.next PQ.body) ?_
  refine D.ofJ 32 (by kernel_rfl) rfl fun KhK11 hK11 => ?_
  refine J.gon rfl rfl rfl rfl ?_
  refine J.callv rfl rfl rfl rfl Tb.cl105 rfl (node_spec a b) ?_
  refine J.nil ?_
  refine hK11 _ _ _ (fun w hs => hs.mask [true, true, true, true]) ?_
  refine D.ofJ 36 (by kernel_rfl) rfl fun KhK13 hK13 => ?_
  refine J.gon rfl rfl rfl rfl ?_
  refine J.bsN (cs := hcs ([c, d, node a b, e])) ([c, d, node a b, e]) hv hc hv_cells hcl rfl rfl rfl rfl rfl rfl Tryd.underlying22 Tb.zz30 Tb.sz30 rfl rfl fun g77 => ?_
  refine J.nil ?_
  refine hK13 _ _ _ (fun w hs => hs.mask [false, true, true, true, true]) ?_
  refine D.ofJ 37 (by kernel_rfl) rfl fun KhK15 hK15 => ?_
  refine J.gon rfl rfl rfl rfl ?_
  refine J.callv rfl rfl rfl rfl Tb.cl26 rfl ((same_fn [c, d, node a b, e] [c, d, node a b, e] _ _ 4 4 _ _ rfl rfl (by omega) (fun w h => ckrow 3 rfl h) (fun w h => ckrow 0 rfl h)).to (by rw [decide_eq_true rfl])) ?_
  refine J.nil ?_
  refine hK15 _ _ _ (fun w hs => hs.mask [false, true, true, true, true]) ?_
  refine D.take 38 (y_pick rfl rfl (fun _ => rfl) (fun h => by cases h)) rfl rfl rfl rfl (by kernel_rfl) (by kernel_rfl) (by kernel_rfl) (PQ.next PQ.body) ?_
  refine D.take 39 (y_move rfl rfl) rfl rfl rfl rfl (by kernel_rfl) (by kernel_rfl) (by kernel_rfl) (PQ.next PQ.body) ?_
  refine D.takeG 40 (y_move rfl rfl) rfl rfl rfl rfl rfl rfl rfl (by kernel_rfl) (by kernel_rfl) (by kernel_rfl) (PQ.next PQ.body) ?_
  refine D.takeG 41 (y_move rfl rfl) rfl rfl rfl rfl rfl rfl rfl (by kernel_rfl) (by kernel_rfl) (by kernel_rfl) (PQ.next PQ.body) ?_
  refine D.takeG 42 (y_hidx (n := 5) (l := [a, b, c, d, e]) 4 rfl Tryd.underlying22 Tb.sz30 rfl rfl rfl rfl (by omega) (fun w hs => strow hs 3 rfl)) rfl rfl rfl rfl rfl rfl rfl (by kernel_rfl) (by kernel_rfl) (by kernel_rfl) (PQ.next PQ.body) ?_
  refine D.takeG 43 (y_hld (l := [a, b, c, d, e]) e rfl Tb.ag30 Tb.sz30 rfl rfl (fun w hs => strow hs 3 rfl)) rfl rfl rfl rfl rfl rfl rfl (by kernel_rfl) (by kernel_rfl) (by kernel_rfl) (PQ.next PQ.body) ?_
  refine D.ofJ 44 (by kernel_rfl) rfl fun KhK16 hK16 => ?_
  refine J.gon rfl rfl rfl rfl ?_
  refine J.bsN (cs := hcs ([e])) ([e]) hv hc hv_cells hcl rfl rfl rfl rfl rfl rfl Tryd.underlying22 Tb.zz30 Tb.sz30 rfl rfl fun g85 => ?_
  refine J.nil ?_
  refine hK16 _ _ _ (fun w hs => hs.mask [false, false, true, true, true, true]) ?_
  refine D.ofJ 45 (by kernel_rfl) rfl fun KhK18 hK18 => ?_
  refine J.gon rfl rfl rfl rfl ?_
  refine J.callv rfl rfl rfl rfl Tb.cl26 rfl ((same_fn [e] [e] _ _ 1 1 _ _ rfl rfl (by omega) (fun w h => ckrow 3 rfl h) (fun w h => ckrow 0 rfl h)).to (by rw [decide_eq_true rfl])) ?_
  refine J.nil ?_
  refine hK18 _ _ _ (fun w hs => hs.mask [false, false, true, true, true, true]) ?_
  refine D.take 46 (y_pick rfl rfl (fun _ => rfl) (fun h => by cases h)) rfl rfl rfl rfl (by kernel_rfl) (by kernel_rfl) (by kernel_rfl) (PQ.next PQ.body) ?_
  refine D.take 47 (y_move rfl rfl) rfl rfl rfl rfl (by kernel_rfl) (by kernel_rfl) (by kernel_rfl) (PQ.next PQ.body) ?_
  refine D.takeG 48 (y_move rfl rfl) rfl rfl rfl rfl rfl rfl rfl (by kernel_rfl) (by kernel_rfl) (by kernel_rfl) (PQ.next PQ.body) ?_
  refine D.takeG 49 (y_len rfl Tryd.underlying22 rfl) rfl rfl rfl rfl rfl rfl rfl (by kernel_rfl) (by kernel_rfl) (by kernel_rfl) (PQ.next PQ.body) ?_
  refine D.takeG 50 ((y_eq rfl rfl rfl).to rfl) rfl rfl rfl rfl rfl rfl rfl (by kernel_rfl) (by kernel_rfl) (by kernel_rfl) (PQ.next PQ.body) ?_
  refine D.take 51 (y_pick rfl rfl (fun _ => rfl) (fun h => by cases h)) rfl rfl rfl rfl (by kernel_rfl) (by kernel_rfl) (by kernel_rfl) (PQ.next PQ.body) ?_
  refine D.take 52 (y_move rfl rfl) rfl rfl rfl rfl (by kernel_rfl) (by kernel_rfl) (by kernel_rfl) (PQ.next PQ.body) ?_
  refine D.takeG 53 (y_move rfl rfl) rfl rfl rfl rfl rfl rfl rfl (by kernel_rfl) (by kernel_rfl) (by kernel_rfl) (PQ.next PQ.body) ?_
  refine D.takeG 54 (y_len rfl Tryd.underlying22 rfl) rfl rfl rfl rfl rfl rfl rfl (by kernel_rfl) (by kernel_rfl) (by kernel_rfl) (PQ.next PQ.body) ?_
  refine D.takeG 55 ((y_eq rfl rfl rfl).to rfl) rfl rfl rfl rfl rfl rfl rfl (by kernel_rfl) (by kernel_rfl) (by kernel_rfl) (PQ.next PQ.body) ?_
  refine D.take 56 (y_pick rfl rfl (fun _ => rfl) (fun h => by cases h)) rfl rfl rfl rfl (by kernel_rfl) (by kernel_rfl) (by kernel_rfl) (PQ.next PQ.body) ?_
  refine D.take 57 (y_move rfl rfl) rfl rfl rfl rfl (by kernel_rfl) (by kernel_rfl) (by kernel_rfl) (PQ.next PQ.body) ?_
  refine D.takeG 58 (y_move rfl rfl) rfl rfl rfl rfl rfl rfl rfl (by kernel_rfl) (by kernel_rfl) (by kernel_rfl) (PQ.next PQ.body) ?_
  refine D.takeG 61 (y_lbW 0 rfl Tb.ag30 Tb.sz30 (hcl _) rfl rfl) rfl rfl rfl rfl rfl rfl rfl (by kernel_rfl) (by kernel_rfl) (by kernel_rfl) (PQ.next PQ.body) ?_
  refine D.takeG 62 (y_move rfl rfl) rfl rfl rfl rfl rfl rfl rfl (by kernel_rfl) (by kernel_rfl) (by kernel_rfl) (PQ.next PQ.body) ?_
  refine D.takeG 59 (y_cuttoN (n := 5) 4 rfl Tryd.underlying22 Tb.sz30 rfl rfl rfl (by omega)) rfl rfl rfl rfl rfl rfl rfl (by kernel_rfl) (by kernel_rfl) (by kernel_rfl) (PQ.next PQ.body) ?_
  refine D.ofJ 60 (by kernel_rfl) rfl fun KhK20 hK20 => ?_
  refine J.gon rfl rfl rfl rfl ?_
  refine J.callv rfl rfl rfl rfl Tb.cl30 rfl (root_spec [a, b, c, d] A 4 k rfl (by omega) (by omega) (fun w h => (ckrow 5 rfl h : Sl w A (hcs [a, b, c, d, e])).htake 4)) ?_
  refine J.nil ?_
  refine hK20 _ _ _ (fun w hs => hs.mask [false, false, true, true, true, true]) ?_
  refine D.ofJ 63 (by kernel_rfl) rfl fun KhK22 hK22 => ?_
  refine J.gon rfl rfl rfl rfl ?_
  refine J.callv rfl rfl rfl rfl Tb.cl27 rfl ((check_fn 4 5 (root [a, b, c, d]) (root [a, b, c, d, e]) [e] A4 1 k4 rfl hk4 (fun w h => ckrow 3 rfl h)).to (by rw [hcA])) ?_
  refine J.nil ?_
  refine hK22 _ _ _ (fun w hs => hs.mask [false, false, true, true, true, true]) ?_
  refine D.takeG 64 ((y_eq rfl rfl rfl).to rfl) rfl rfl rfl rfl rfl rfl rfl (by kernel_rfl) (by kernel_rfl) (by kernel_rfl) (PQ.next PQ.body) ?_
  refine D.take 65 (y_pick rfl rfl (fun _ => rfl) (fun h => by cases h)) rfl rfl rfl rfl (by kernel_rfl) (by kernel_rfl) (by kernel_rfl) (PQ.next PQ.body) ?_
  refine D.take 66 (y_move rfl rfl) rfl rfl rfl rfl (by kernel_rfl) (by kernel_rfl) (by kernel_rfl) (PQ.next PQ.body) ?_
  refine D.takeG 67 (y_move rfl rfl) rfl rfl rfl rfl rfl rfl rfl (by kernel_rfl) (by kernel_rfl) (by kernel_rfl) (PQ.next PQ.body) ?_
  refine D.takeG 70 (y_lbW 0 rfl Tb.ag30 Tb.sz30 (hcl _) rfl rfl) rfl rfl rfl rfl rfl rfl rfl (by kernel_rfl) (by kernel_rfl) (by kernel_rfl) (PQ.next PQ.body) ?_
  refine D.takeG 71 (y_move rfl rfl) rfl rfl rfl rfl rfl rfl rfl (by kernel_rfl) (by kernel_rfl) (by kernel_rfl) (PQ.next PQ.body) ?_
  refine D.takeG 68 (y_cuttoN (n := 5) 3 rfl Tryd.underlying22 Tb.sz30 rfl rfl rfl (by omega)) rfl rfl rfl rfl rfl rfl rfl (by kernel_rfl) (by kernel_rfl) (by kernel_rfl) (PQ.next PQ.body) ?_
  refine D.ofJ 69 (by kernel_rfl) rfl fun KhK24 hK24 => ?_
  refine J.gon rfl rfl rfl rfl ?_
  refine J.callv rfl rfl rfl rfl Tb.cl30 rfl (root_spec [a, b, c] A 3 k rfl (by omega) (by omega) (fun w h => (ckrow 5 rfl h : Sl w A (hcs [a, b, c, d, e])).htake 3)) ?_
  refine J.nil ?_
  refine hK24 _ _ _ (fun w hs => hs.mask [false, false, true, true, true, true]) ?_
  refine D.ofJ 72 (by kernel_rfl) rfl fun KhK26 hK26 => ?_
  refine J.gon rfl rfl rfl rfl ?_
  refine J.callv rfl rfl rfl rfl Tb.cl27 rfl ((check_fn 3 5 (root [a, b, c]) (root [a, b, c, d, e]) [e] A4 1 k4 rfl hk4 (fun w h => ckrow 3 rfl h)).to (by rw [hcB])) ?_
  refine J.nil ?_
  refine hK26 _ _ _ (fun w hs => hs.mask [false, false, true, true, true, true]) ?_
  refine D.takeG 73 (y_eq rfl rfl rfl) rfl rfl rfl rfl rfl rfl rfl (by kernel_rfl) (by kernel_rfl) (by kernel_rfl) (PQ.next PQ.body) ?_
  refine D.take 74 (y_pick rfl rfl (fun _ => rfl) (fun h => by cases h)) rfl rfl rfl rfl (by kernel_rfl) (by kernel_rfl) (by kernel_rfl) (PQ.next PQ.body) ?_
  refine D.take 75 (y_assign rfl rfl) rfl rfl rfl rfl (by kernel_rfl) (by kernel_rfl) (by kernel_rfl) (PQ.next PQ.body) ?_
  refine D.done (by kernel_rfl) ?_
  refine JQ.next hK9 ?_
  refine JC.ret ?_
  exact ret1 rfl (r_tmp rfl) fun w hs => Post.pure hs
end Go.Proofs.YtjkfeonbioccmaaDoor
