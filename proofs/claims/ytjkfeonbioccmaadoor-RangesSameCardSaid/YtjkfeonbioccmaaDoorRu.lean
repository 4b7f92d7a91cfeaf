/- Speculum proofs: RangesSame, walked: the range of leaves at once, one by one, in two parts, and merged from the parts, are the same, and tell the root. -/
import Derived.Test.YtjkfeonbioccmaaDoorRq
namespace Go.Proofs.YtjkfeonbioccmaaDoor
open Go Go.Sx Go.RowKit
set_option linter.unusedVariables false
set_option linter.unusedSimpArgs false
set_option maxRecDepth 100000
set_option maxHeartbeats 4000000
variable {Gl F : World → Prop}
theorem sam_one (s : Int) (l : List H) : sam s s l l = true := decide_eq_true ⟨rfl, rfl⟩
theorem can_app (j n : Nat) : ∀ (m l : List H), n * 2 ^ j ≤ l.length → can (l ++ m) j n = can l j n := by
  intro m
  induction m with
  | nil => intro l _; rw [List.append_nil]
  | cons x m ih =>
    intro l h
    rw [List.append_cons, ih (l ++ [x]) (by rw [List.length_append]; omega)]
    exact can_snoc l x n j n (Nat.le_refl _) h
theorem rng_take (l : List H) (a : Nat) (h : a ≤ l.length) : can l 0 a = rng (l.take a) := by
  have e := can_app 0 a (l.drop a) (l.take a) (by rw [List.length_take]; omega)
  rw [List.take_append_drop] at e
  rw [e, rng, List.length_take, Nat.min_eq_left h]
theorem vld_rng (l : List H) (h : l.length ≤ 4096) : vld (l.length : Int) (rng l) = true := by
  refine decide_eq_true ⟨by omega, by omega, ?_⟩
  rw [Int.toNat_natCast]; exact rng_len l
theorem ext_facts (l m : List H) (h : l.length + m.length ≤ 4096) (s : Int) (hs : s = l.length) : xS s (rng l) m = ((l ++ m).length : Int) ∧ xL s (rng l) m = (rng (l ++ m)).reverse ∧ xE s (rng l) m = 0 := by
  subst hs
  have hv := vld_rng l (by omega)
  have ok : xOk (l.length : Int) (rng l) m := ⟨hv, by omega⟩
  refine ⟨?_, ?_, ?_⟩
  · rw [xS, if_pos ok, List.length_append]; omega
  · rw [xL, if_pos ok, Int.toNat_natCast, ext_rng m l]
  · rw [xE, if_pos hv, if_neg ok.2]
theorem merge_facts (l : List H) (a : Nat) (h : a ≤ l.length) (hl : l.length ≤ 4096) : pL (a : Int) (l.drop a) = cutR (pts a (l.length - a)) (l.drop a) ∧ pE (a : Int) (l.drop a) = 0 ∧
    ∀ p, p = cutR (pts a (l.length - a)) (l.drop a) → mS (a : Int) (rng (l.take a)) (l.length : Int) p = l.length ∧ mL (a : Int) (rng (l.take a)) (l.length : Int) p = (rng l).reverse ∧ mE (a : Int) (rng (l.take a)) (l.length : Int) p = 0 := by
  have hd : (l.drop a).length = l.length - a := List.length_drop ..
  have nb : ¬ pBad (a : Int) (l.drop a) := by unfold pBad; rw [hd]; omega
  refine ⟨?_, ?_, fun p hp => ?_⟩
  · rw [pL, if_neg nb, hd, Int.toNat_natCast]
  · rw [pE, if_neg nb]
  · have hlt : (l.take a).length = a := by rw [List.length_take]; omega
    have hv := vld_rng (l.take a) (by omega)
    rw [hlt] at hv
    have ok : mOk (a : Int) (rng (l.take a)) (l.length : Int) p := ⟨hv, by omega, by omega, by rw [Int.toNat_natCast, Int.toNat_natCast, hp, cutR_len]⟩
    refine ⟨by rw [mS, if_pos ok], ?_, by rw [mE, if_pos ok]⟩
    have hp2 := put_rng l (l.length - a) a (l.length - a) (Nat.le_refl _) (by omega)
    rw [rng_take l a h, show a + (l.length - a) = l.length by omega, rng_take l l.length (Nat.le_refl _), List.take_length] at hp2
    rw [mL, if_pos ok, Int.toNat_natCast, Int.toNat_natCast, hp, hp2]
theorem root_facts (l : List H) (h : l.length ≤ 4096) (s : Int) (hs : s = l.length) : gR s (rng l).reverse = root l ∧ gE s (rng l).reverse = 0 := by
  subst hs
  have hv : vld (l.length : Int) (rng l).reverse = true := by rw [vld_len _ _ _ (List.length_reverse ..)]; exact vld_rng l h
  exact ⟨by rw [gR, if_pos hv, List.reverse_reverse]; exact rng_root l, by rw [gE, if_pos hv]⟩
theorem law_RangesSame (z : UInt8) (l : List H) (A : Option Addr) (n k : Nat) (hn : l.length = n) (hk : n ≤ k) (hA : ∀ w, F w → Sl w A (hcs l)) :
    PureFn Tryd.prog Gs 14 [.slice A n k, u8 z] F (.bool true) := by
  refine FnSpec.intro Tryd.func14 rfl Tryd.ntmps14 rfl fun X M w => ?_
  refine JC.seq fun K1 hK1 => ?_
  refine JC.region ?_
  refine J.yl (y_assign rfl rfl) rfl rfl rfl ?_
  refine J.nil ?_
  refine JQ.next hK1 ?_
  refine JC.seq fun K2 hK2 => ?_
  refine JC.seq fun K3 hK3 => ?_
  refine JC.region ?_
  refine J.yl (y_move rfl rfl) rfl rfl rfl ?_
  refine J.yl (y_len rfl Tryd.underlying22 rfl) rfl rfl rfl ?_
  refine J.yl (y_gt rfl rfl rfl) rfl rfl rfl ?_
  refine J.nil ?_
  refine JQ.next hK3 ?_
  refine JC.condp rfl (fun h1 => ?_) (fun h1 => ?_)
  · refine JC.seq fun K4 hK4 => ?_
    refine JC.region ?_
    refine J.callv rfl rfl rfl rfl Tb.cl57 rfl (ranged_fn) ?_
    refine J.yl (y_assign rfl rfl) rfl rfl rfl ?_
    refine J.nil ?_
    refine JQ.next hK4 ?_
    refine JC.ret ?_
    refine JQ.then_ret ?_
    exact ret1 rfl (r_tmp rfl) fun w hs => Post.pure hs
  · subst hn
    obtain ⟨o1, o2, o3⟩ := ext_facts [] l (by rw [List.length_nil]; omega) 0 rfl
    rw [List.nil_append] at o1 o2
    obtain ⟨a, ha⟩ : ∃ a, z.toNat % (l.length + 1) = a := ⟨_, rfl⟩
    have hal : a ≤ l.length := by have := Nat.mod_lt z.toNat (show 0 < l.length + 1 by omega); omega
    obtain ⟨f1, f2, f3⟩ := ext_facts [] (l.take a) (by rw [List.length_nil, List.length_take]; omega) 0 rfl
    rw [List.nil_append, List.length_take, Nat.min_eq_left hal] at f1
    rw [List.nil_append] at f2
    obtain ⟨j1, j2, j3⟩ := ext_facts (l.take a) (l.drop a) (by rw [List.length_drop, List.length_take]; omega) a (by rw [List.length_take]; omega)
    rw [List.take_append_drop] at j1 j2
    obtain ⟨p1, p2, p3⟩ := merge_facts l a hal (by omega)
    obtain ⟨ps, hps⟩ : ∃ ps, cutR (pts a (l.length - a)) (l.drop a) = ps := ⟨_, rfl⟩
    rw [hps] at p1
    obtain ⟨m1, m2, m3⟩ := p3 ps hps.symm
    obtain ⟨r1, r2⟩ := root_facts l (by omega) l.length rfl
    have hvl := vld_rng l (by omega)
    have hrl : (rng l).length ≤ 127 := by rw [rng_len]; exact ones_le _ (by omega)
    have hvr : vld (l.length : Int) (rng l).reverse = true := by rw [vld_len _ _ _ (List.length_reverse ..)]; exact hvl
    obtain ⟨R, hR⟩ : ∃ R, (rng l).reverse = R := ⟨_, rfl⟩
    rw [hR] at o2 j2 m2 r1 r2 hvr
    have hRl : R.length ≤ 127 := by rw [← hR, List.length_reverse]; exact hrl
    refine JC.skip ?_
    refine JQ.next hK2 ?_
    refine JC.seq fun K5 hK5 => ?_
    refine JC.region ?_
    refine J.yl (y_move rfl rfl) rfl rfl rfl ?_
    refine J.yl (y_8toi rfl (isS Tryd.underlying5) Tryd.underlying3 rfl) rfl rfl rfl ?_
    refine J.yl (y_move rfl rfl) rfl rfl rfl ?_
    refine J.yl (y_len rfl Tryd.underlying22 rfl) rfl rfl rfl ?_
    refine J.yl (y_add64 rfl rfl rfl (by omega)) rfl rfl rfl ?_
    refine J.yl ((y_remN z.toNat (l.length + 1) rfl rfl rfl rfl rfl (by omega)).to (by rw [ha])) rfl rfl rfl ?_
    refine J.yl (y_assign rfl rfl) rfl rfl rfl ?_
    refine J.nil ?_
    refine JQ.next hK5 ?_
    refine JC.seq fun K6 hK6 => ?_
    refine JC.region ?_
    refine J.yl (y_move rfl rfl) rfl rfl rfl ?_
    refine J.callR (Cin := []) rfl rfl rfl rfl Tb.cl60 rfl rfl (rgof_fnE l l.length R 0 o1 o2 o3 A l.length k rfl (fun w h => hA w h.1)) ?_
    rintro ⟨A1, k1⟩ hk1
    refine J.yl (y_move rfl rfl) rfl rfl rfl ?_
    refine J.yl (y_extract rfl rfl rfl) rfl rfl rfl ?_
    refine J.yl (y_extract rfl rfl rfl) rfl rfl rfl ?_
    refine J.alloc rfl rfl rfl rfl Tb.zz87 rfl fun g6 => ?_
    refine J.storeW 0 rfl rfl rfl rfl rfl rfl rfl Tb.sz87 (by first | (simp [length_wl]; done) | rfl) (by first | (simp [length_wl]; done) | rfl) (by first | exact u32s1 _ | exact one_vc _ | (simp; done) | (intro u hu; simp only [List.mem_cons, List.not_mem_nil, or_false] at hu; rcases hu with rfl | rfl <;> rfl)) ?_
    refine J.yl (y_assign rfl rfl) rfl rfl rfl ?_
    refine J.nil ?_
    refine JQ.next hK6 ?_
    refine JC.seq fun K7 hK7 => ?_
    refine JC.seq fun K8 hK8 => ?_
    refine JC.region ?_
    refine J.yl (y_move rfl rfl) rfl rfl rfl ?_
    refine J.yl (Yl.to (v' := .bool false) (y_ne rfl rfl rfl) rfl) rfl rfl rfl ?_
    refine J.yl (y_move rfl rfl) rfl rfl rfl ?_
    refine J.gyes (y_lbW 0 rfl Tb.ag87 Tb.sz87 (by first | (simp [length_wl]; done) | rfl) rfl rfl) rfl rfl rfl rfl rfl rfl ?_
    refine J.gon rfl rfl rfl rfl ?_
    refine J.callv rfl rfl rfl rfl Tb.cl67 rfl ((valid_fn (l.length : Int) R A1 R.length k1 rfl).to (by rw [hvr])) ?_
    refine J.gyes ((y_not rfl rfl).to rfl) rfl rfl rfl rfl rfl rfl ?_
    refine J.yl (y_pick rfl rfl (fun h => by cases h) (fun _ => rfl)) rfl rfl rfl ?_
    refine J.nil ?_
    refine JQ.next hK8 ?_
    refine JC.no rfl ?_
    refine JC.skip ?_
    refine JQ.next hK7 ?_
    refine JC.seq fun K9 hK9 => ?_
    refine JC.region ?_
    refine J.alloc rfl rfl rfl rfl Tb.zz87 rfl fun g8 => ?_
    refine J.nil ?_
    refine JQ.next hK9 ?_
    refine JC.seq fun K10 hK10 => ?_
    refine JC.seq fun K11 hK11 => ?_
    refine JC.region ?_
    refine J.yl (y_assign rfl rfl) rfl rfl rfl ?_
    refine J.nil ?_
    refine JQ.next hK11 ?_
    refine JC.block ?_
    refine JC.st ?_ (fun w hs => hs.nilrow 30 32)
    refine JC.loopE (σ := Nat × List H × Option Addr × Nat) (M := fun q => [(9, .int .i64 (q.1 : Int)), (7, .int .i64 0)]) (kp := [(0, _), (4, _), (5, _), (6, _), (8, _)]) (hkp := (okE_cons rfl (okE_cons rfl (okE_cons rfl (okE_cons rfl (okE_cons rfl okE_nil)))))) (Dc := fun q => [.row (.slice q.2.2.1 q.2.1.length q.2.2.2) 30 32 q.2.1.length (hcs q.2.1), .box g8 87 [.int .i64 (q.1 : Int), .slice q.2.2.1 q.2.1.length q.2.2.2], .box g6 87 [.int .i64 (l.length : Int), .slice A1 R.length k1], .row (.slice A1 R.length k1) 30 32 R.length (hcs R)]) (H := fun _ => F) (Ψ := fun q => q.1 ≤ l.length ∧ q.2.1 = (rng (l.take q.1)).reverse ∧ q.2.1.length ≤ q.2.2.2) (μ := fun q => l.length - q.1) (0, [], none, 0) ⟨by dsimp only; omega, rfl, Nat.le_refl _⟩ (okE_cons rfl (okE_cons rfl okE_nil)) (fun w h => h) (fun sK12 hK12 K12 againK12 => ?_)
    obtain ⟨i, L, A2, k2⟩ := sK12
    dsimp only at hK12 againK12 ⊢
    obtain ⟨hi, hL, hk2⟩ := hK12
    refine JC.seq fun K13 hK13 => ?_
    refine JC.seq fun K14 hK14 => ?_
    refine JC.region ?_
    refine J.yl (y_move rfl rfl) rfl rfl rfl ?_
    refine J.yl (y_move rfl rfl) rfl rfl rfl ?_
    refine J.yl (y_len rfl Tryd.underlying22 rfl) rfl rfl rfl ?_
    refine J.yl (y_lt rfl rfl rfl) rfl rfl rfl ?_
    refine J.nil ?_
    refine JQ.next hK14 ?_
    refine JC.condp rfl (fun h2 => ?_) (fun h2 => ?_)
    · obtain ⟨x, hx⟩ : ∃ x, l[i]? = some x := ⟨_, List.getElem?_eq_getElem (show i < l.length by omega)⟩
      obtain ⟨e1, e2, e3⟩ := ext_facts (l.take i) [x] (by rw [List.length_take, List.length_singleton]; omega) i (by rw [List.length_take]; omega)
      have hts : l.take i ++ [x] = l.take (i + 1) := by rw [List.take_add_one, hx]; rfl
      rw [hts] at e1 e2
      rw [List.length_take, Nat.min_eq_left (by omega)] at e1
      have hLl : L.length ≤ 127 := by rw [hL, List.length_reverse, rng_len]; exact ones_le _ (by rw [List.length_take]; omega)
      refine JC.skip ?_
      refine JQ.next hK13 ?_
      refine JC.seq fun K15 hK15 => ?_
      refine JC.block ?_
      refine JC.seq fun K16 hK16 => ?_
      refine JC.drawM [false, false, false, false] (by kernel_rfl) ?_
      refine D.take 1 (y_move rfl rfl) rfl rfl rfl rfl (by kernel_rfl) (by kernel_rfl) (by kernel_rfl) (PQ.next (PQ.block (PQ.next (PQ.next (PQ.block (PQ.next PQ.body)))))) ?_
      refine D.take 2 (y_move rfl rfl) rfl rfl rfl rfl (by kernel_rfl) (by kernel_rfl) (by kernel_rfl) (PQ.next (PQ.block (PQ.next (PQ.next (PQ.block (PQ.next PQ.body)))))) ?_
      refine D.take 3 (y_hidx i rfl Tryd.underlying22 Tb.sz30 rfl rfl rfl rfl (by omega) (fun w hs => hA w hs.fact)) rfl rfl rfl rfl (by kernel_rfl) (by kernel_rfl) (by kernel_rfl) (PQ.next (PQ.block (PQ.next (PQ.next (PQ.block (PQ.next PQ.body)))))) ?_
      refine D.take 4 (y_hld x rfl Tb.ag30 Tb.sz30 rfl hx (fun w hs => hA w hs.fact)) rfl rfl rfl rfl (by kernel_rfl) (by kernel_rfl) (by kernel_rfl) (PQ.next (PQ.block (PQ.next (PQ.next (PQ.block (PQ.next PQ.body)))))) ?_
      refine D.ofJ 0 (by kernel_rfl) rfl fun KhK17 hK17 => ?_
      refine J.yl (y_lbW 1 rfl Tb.ag87 Tb.sz87 (by first | (simp [length_wl]; done) | rfl) rfl rfl) rfl rfl rfl ?_
      refine J.nil ?_
      refine hK17 _ _ _ (fun w hs => hs.mask [false, false, false, false]) ?_
      refine D.ofJ 5 (by kernel_rfl) rfl fun KhK19 hK19 => ?_
      refine J.callR (Cin := []) rfl rfl rfl rfl Tb.cl64 rfl rfl (rgappend_fnE (i : Int) (rng (l.take i)) x ((i + 1 : Nat) : Int) (rng (l.take (i + 1))).reverse 0 e1 e2 e3 A2 L.length k2 (by rw [hL, List.length_reverse]) (by omega) (fun w h => by rw [← hL]; exact ckrow 0 rfl h) (by unfold in64; omega)) ?_
      rintro ⟨A3, k3⟩ hk3
      refine J.nil ?_
      refine hK19 _ _ _ (fun w hs => hs.mask [false, false, false, false, false]) ?_
      refine D.take 6 (y_move rfl rfl) rfl rfl rfl rfl (by kernel_rfl) (by kernel_rfl) (by kernel_rfl) (PQ.next (PQ.block (PQ.next (PQ.next (PQ.block (PQ.next PQ.body)))))) ?_
      refine D.take 7 (y_extract rfl rfl rfl) rfl rfl rfl rfl (by kernel_rfl) (by kernel_rfl) (by kernel_rfl) (PQ.next (PQ.block (PQ.next (PQ.next (PQ.block (PQ.next PQ.body)))))) ?_
      refine D.take 8 (y_extract rfl rfl rfl) rfl rfl rfl rfl (by kernel_rfl) (by kernel_rfl) (by kernel_rfl) (PQ.next (PQ.block (PQ.next (PQ.next (PQ.block (PQ.next PQ.body)))))) ?_
      refine D.ofJ 9 (by kernel_rfl) rfl fun KhK20 hK20 => ?_
      refine J.storeW 2 rfl rfl rfl rfl rfl rfl rfl Tb.sz87 (by first | (simp [length_wl]; done) | rfl) (by first | (simp [length_wl]; done) | rfl) (by first | exact u32s1 _ | exact one_vc _ | (simp; done) | (intro u hu; simp only [List.mem_cons, List.not_mem_nil, or_false] at hu; rcases hu with rfl | rfl <;> rfl)) ?_
      refine J.nil ?_
      refine hK20 _ _ _ (fun w hs => hs.mask [false, false, false, false, false]) ?_
      refine D.take 10 (y_assign rfl rfl) rfl rfl rfl rfl (by kernel_rfl) (by kernel_rfl) (by kernel_rfl) (PQ.next (PQ.block (PQ.next (PQ.next (PQ.block (PQ.next PQ.body)))))) ?_
      refine D.done (by kernel_rfl) ?_
      refine JQ.next hK16 ?_
      refine JC.seq fun K21 hK21 => ?_
      refine JC.region ?_
      refine J.yl (y_move rfl rfl) rfl rfl rfl ?_
      refine J.yl (y_ne rfl rfl rfl) rfl rfl rfl ?_
      refine J.nil ?_
      refine JQ.next hK21 ?_
      refine JC.condn rfl (fun h3 => ?_) (fun h3 => ?_)
      · exact absurd rfl h3
      · refine JC.skip ?_
        refine JQ.block_normal (JQ.next hK15 ?_)
        refine JC.region ?_
        refine J.yl (y_move rfl rfl) rfl rfl rfl ?_
        refine J.yl (y_add64 rfl rfl rfl (by omega)) rfl rfl rfl ?_
        refine J.yl (y_assign rfl rfl) rfl rfl rfl ?_
        refine J.nil ?_
        refine JQ.front 1 rfl ?_
        refine JQ.drop ?_
        refine againK12 (i + 1, (rng (l.take (i + 1))).reverse, A3, k3) _ ⟨by dsimp only; omega, rfl, hk3⟩ (by dsimp only; omega) (okE_cons (slotI (by dsimp only; omega)) (okE_cons rfl okE_nil)) (okE_cons rfl (okE_cons rfl (okE_cons rfl (okE_cons rfl (okE_cons rfl okE_nil)))))
    · obtain rfl : i = l.length := by omega
      obtain rfl : L = R := by rw [hL, List.take_length]; exact hR
      refine JC.exit ?_
      refine JQ.then_exit (JQ.then_exit (JQ.block_hit (JQ.next hK10 ?_)))
      refine JC.seq fun K22 hK22 => ?_
      refine JC.region ?_
      refine J.yl (y_move rfl rfl) rfl rfl rfl ?_
      refine J.yl (y_move rfl rfl) rfl rfl rfl ?_
      refine J.yl (y_cuttoN a rfl Tryd.underlying22 Tb.sz30 rfl rfl rfl (by omega)) rfl rfl rfl ?_
      refine J.callR (Cin := []) rfl rfl rfl rfl Tb.cl60 rfl rfl (rgof_fnE (l.take a) a (rng (l.take a)).reverse 0 f1 f2 f3 A a k (by rw [List.length_take]; omega) (fun w h => (hA w h.1).htake _)) ?_
      rintro ⟨A3, k3⟩ hk3
      refine J.yl (y_move rfl rfl) rfl rfl rfl ?_
      refine J.yl (y_extract rfl rfl rfl) rfl rfl rfl ?_
      refine J.yl (y_extract rfl rfl rfl) rfl rfl rfl ?_
      refine J.alloc rfl rfl rfl rfl Tb.zz87 rfl fun g10 => ?_
      refine J.storeW 0 rfl rfl rfl rfl rfl rfl rfl Tb.sz87 (by first | (simp [length_wl]; done) | rfl) (by first | (simp [length_wl]; done) | rfl) (by first | exact u32s1 _ | exact one_vc _ | (simp; done) | (intro u hu; simp only [List.mem_cons, List.not_mem_nil, or_false] at hu; rcases hu with rfl | rfl <;> rfl)) ?_
      refine J.yl (y_assign rfl rfl) rfl rfl rfl ?_
      refine J.nil ?_
      refine JQ.next hK22 ?_
      refine JC.seq fun K23 hK23 => ?_
      have hfl : (rng (l.take a)).reverse.length ≤ 127 := by rw [List.length_reverse, rng_len]; exact ones_le _ (by rw [List.length_take]; omega)
      refine JC.cutE (σ := Nat × Option Addr × Nat) (M := fun q => [(12, .pointer (some ⟨q.1, 0, none⟩)), (13, .int .i64 0)]) (kp := [(0, _), (4, _), (5, _), (6, _), (8, _), (10, _), (11, _)]) (hkp := (okE_cons rfl (okE_cons rfl (okE_cons rfl (okE_cons rfl (okE_cons rfl (okE_cons rfl (okE_cons rfl okE_nil)))))))) (Dc := fun q => [.box q.1 87 [.int .i64 (l.length : Int), .slice q.2.1 L.length q.2.2], .row (.slice q.2.1 L.length q.2.2) 30 32 L.length (hcs L), .box g10 87 [.int .i64 (a : Int), .slice A3 (rng (l.take a)).reverse.length k3], .row (.slice A3 (rng (l.take a)).reverse.length k3) 30 32 (rng (l.take a)).reverse.length (hcs (rng (l.take a)).reverse), .row (.slice A2 L.length k2) 30 32 L.length (hcs L), .box g8 87 [.int .i64 (l.length : Int), .slice A2 L.length k2], .box g6 87 [.int .i64 (l.length : Int), .slice A1 L.length k1], .row (.slice A1 L.length k1) 30 32 L.length (hcs L)]) (H := fun _ => F) (Ψ := fun q => L.length ≤ q.2.2) (fun K24 againK24 => ?_) (fun sK24 hK24 => ?_)
      refine JC.drawM [true, true, false, false, false, false] (by kernel_rfl) ?_
      refine D.take 0 (y_lbW 0 rfl Tb.ag87 Tb.sz87 (by first | (simp [length_wl]; done) | rfl) rfl rfl) rfl rfl rfl rfl (by kernel_rfl) (by kernel_rfl) (by kernel_rfl) (PQ.next (PQ.next PQ.body)) ?_
      refine D.take 1 (y_move rfl rfl) rfl rfl rfl rfl (by kernel_rfl) (by kernel_rfl) (by kernel_rfl) (PQ.next (PQ.next PQ.body)) ?_
      refine D.take 2 (y_move rfl rfl) rfl rfl rfl rfl (by kernel_rfl) (by kernel_rfl) (by kernel_rfl) (PQ.next (PQ.next PQ.body)) ?_
      · refine D.take 3 (y_cutfromN a rfl Tryd.underlying22 Tb.sz30 rfl rfl rfl (by omega)) rfl rfl rfl rfl (by kernel_rfl) (by kernel_rfl) (by kernel_rfl) (PQ.next (PQ.next PQ.body)) ?_
        refine D.two 4 8 (by kernel_rfl) ?_ ?_
        · refine DS.ofJ rfl fun KhK26 hK26 => ?_
          refine J.callR (Cin := []) rfl rfl rfl rfl Tb.cl66 rfl rfl (extend_fnE (a : Int) (rng (l.take a)) (l.drop a) (l.length : Int) L 0 j1 j2 j3 A3 _ (rng (l.take a)).reverse.length k3 (l.length - a) (k - a) (by rw [List.length_reverse]) (by rw [List.length_drop]) (by omega) (fun w h => ckrow 1 rfl h) (fun w h => (hA w h.1).hdrop _ _ hk (by omega)) (by unfold in64; omega)) ?_
          rintro ⟨A4, k4⟩ hk4
          refine J.nil ?_
          refine hK26 _ _ _ (fun w hs => hs.mask [false, true, true, false, false, false, false]) ?_
          refine D.take 5 (y_move rfl rfl) rfl rfl rfl rfl (by kernel_rfl) (by kernel_rfl) (by kernel_rfl) (PQ.next (PQ.next PQ.body)) ?_
          refine D.take 6 (y_extract rfl rfl rfl) rfl rfl rfl rfl (by kernel_rfl) (by kernel_rfl) (by kernel_rfl) (PQ.next (PQ.next PQ.body)) ?_
          refine D.take 7 (y_extract rfl rfl rfl) rfl rfl rfl rfl (by kernel_rfl) (by kernel_rfl) (by kernel_rfl) (PQ.next (PQ.next PQ.body)) ?_
          refine D.ofJ 8 (by kernel_rfl) rfl fun KhK27 hK27 => ?_
          refine J.alloc rfl rfl rfl rfl Tb.zz87 rfl fun g12 => ?_
          refine J.nil ?_
          refine hK27 _ _ _ (fun w hs => hs.mask [false, false, true, true, false, false, false, false]) ?_
          refine D.ofJ 9 (by kernel_rfl) rfl fun KhK28 hK28 => ?_
          refine J.storeW 0 rfl rfl rfl rfl rfl rfl rfl Tb.sz87 (by first | (simp [length_wl]; done) | rfl) (by first | (simp [length_wl]; done) | rfl) (by first | exact u32s1 _ | exact one_vc _ | (simp; done) | (intro u hu; simp only [List.mem_cons, List.not_mem_nil, or_false] at hu; rcases hu with rfl | rfl <;> rfl)) ?_
          refine J.nil ?_
          refine hK28 _ _ _ (fun w hs => hs.mask [false, false, true, true, false, false, false, false]) ?_
          refine D.take 10 (y_assign rfl rfl) rfl rfl rfl rfl (by kernel_rfl) (by kernel_rfl) (by kernel_rfl) (PQ.next (PQ.next PQ.body)) ?_
          refine D.done (by kernel_rfl) ?_
          refine againK24 (g12, A4, k4) _ hk4 (okE_cons rfl (okE_cons rfl okE_nil)) (okE_cons rfl (okE_cons rfl (okE_cons rfl (okE_cons rfl (okE_cons rfl (okE_cons rfl (okE_cons rfl okE_nil)))))))
        · refine DS.ofJ rfl fun KhK29 hK29 => ?_
          refine J.alloc rfl rfl rfl rfl Tb.zz87 rfl fun g12 => ?_
          refine J.nil ?_
          refine hK29 _ _ _ (fun w hs => hs.mask [false, true, true, false, false, false, false]) ?_
          refine D.ofJ 4 (by kernel_rfl) rfl fun KhK31 hK31 => ?_
          refine J.callR (Cin := []) rfl rfl rfl rfl Tb.cl66 rfl rfl (extend_fnE (a : Int) (rng (l.take a)) (l.drop a) (l.length : Int) L 0 j1 j2 j3 A3 _ (rng (l.take a)).reverse.length k3 (l.length - a) (k - a) (by rw [List.length_reverse]) (by rw [List.length_drop]) (by omega) (fun w h => ckrow 2 rfl h) (fun w h => (hA w h.1).hdrop _ _ hk (by omega)) (by unfold in64; omega)) ?_
          rintro ⟨A4, k4⟩ hk4
          refine J.nil ?_
          refine hK31 _ _ _ (fun w hs => hs.mask [false, false, true, true, false, false, false, false]) ?_
          refine D.take 5 (y_move rfl rfl) rfl rfl rfl rfl (by kernel_rfl) (by kernel_rfl) (by kernel_rfl) (PQ.next (PQ.next PQ.body)) ?_
          refine D.take 6 (y_extract rfl rfl rfl) rfl rfl rfl rfl (by kernel_rfl) (by kernel_rfl) (by kernel_rfl) (PQ.next (PQ.next PQ.body)) ?_
          refine D.take 7 (y_extract rfl rfl rfl) rfl rfl rfl rfl (by kernel_rfl) (by kernel_rfl) (by kernel_rfl) (PQ.next (PQ.next PQ.body)) ?_
          refine D.ofJ 9 (by kernel_rfl) rfl fun KhK32 hK32 => ?_
          refine J.storeW 1 rfl rfl rfl rfl rfl rfl rfl Tb.sz87 (by first | (simp [length_wl]; done) | rfl) (by first | (simp [length_wl]; done) | rfl) (by first | exact u32s1 _ | exact one_vc _ | (simp; done) | (intro u hu; simp only [List.mem_cons, List.not_mem_nil, or_false] at hu; rcases hu with rfl | rfl <;> rfl)) ?_
          refine J.nil ?_
          refine hK32 _ _ _ (fun w hs => hs.mask [false, false, true, true, false, false, false, false]) ?_
          refine D.take 10 (y_assign rfl rfl) rfl rfl rfl rfl (by kernel_rfl) (by kernel_rfl) (by kernel_rfl) (PQ.next (PQ.next PQ.body)) ?_
          refine D.done (by kernel_rfl) ?_
          refine JQ.front 1 rfl ?_
          refine againK24 (g12, A4, k4) _ hk4 (okE_cons rfl (okE_cons rfl okE_nil)) (okE_cons rfl (okE_cons rfl (okE_cons rfl (okE_cons rfl (okE_cons rfl (okE_cons rfl (okE_cons rfl okE_nil)))))))
      · obtain ⟨g12, A4, k4⟩ := sK24
        dsimp only at hK24 ⊢
        obtain hk4 := hK24
        refine JQ.next hK23 ?_
        refine JC.seq fun K33 hK33 => ?_
        refine JC.region ?_
        refine J.yl (y_move rfl rfl) rfl rfl rfl ?_
        refine J.yl (y_move rfl rfl) rfl rfl rfl ?_
        refine J.yl (y_move rfl rfl) rfl rfl rfl ?_
        have hk4 : L.length ≤ k4 := by assumption
        refine J.yl (y_cutfromN a rfl Tryd.underlying22 Tb.sz30 rfl rfl rfl (by omega)) rfl rfl rfl ?_
        refine J.callR (Cin := []) rfl rfl rfl rfl Tb.cl58 rfl rfl (part_fnE (a : Int) (l.drop a) ps 0 p1 p2 _ (l.length - a) (k - a) (by rw [List.length_drop]) (by omega) (by omega) (fun w h => (hA w h.1).hdrop _ _ hk (by omega)) (by unfold in64; omega)) ?_
        rintro ⟨A5, k5⟩ hk5
        refine J.yl (y_move rfl rfl) rfl rfl rfl ?_
        refine J.yl (y_extract rfl rfl rfl) rfl rfl rfl ?_
        refine J.yl (y_extract rfl rfl rfl) rfl rfl rfl ?_
        refine J.yl (y_assign rfl rfl) rfl rfl rfl ?_
        refine J.yl (y_assign rfl rfl) rfl rfl rfl ?_
        refine J.nil ?_
        refine JQ.next hK33 ?_
        refine JC.seq fun K34 hK34 => ?_
        refine JC.region ?_
        refine J.yl (y_lbW 3 rfl Tb.ag87 Tb.sz87 (by first | (simp [length_wl]; done) | rfl) rfl rfl) rfl rfl rfl ?_
        refine J.yl (y_move rfl rfl) rfl rfl rfl ?_
        refine J.yl (y_len rfl Tryd.underlying22 rfl) rfl rfl rfl ?_
        refine J.yl (y_move rfl rfl) rfl rfl rfl ?_
        refine J.callR (Cin := []) rfl rfl rfl rfl Tb.cl71 rfl rfl (merge_fnE (a : Int) (rng (l.take a)) (l.length : Int) ps (l.length : Int) L 0 m1 m2 m3 A3 A5 (rng (l.take a)).reverse.length k3 ps.length k5 (by rw [List.length_reverse]) rfl hk5 (by omega) (fun w h => ckrow 4 rfl h) (fun w h => ckrow 0 rfl h)) ?_
        rintro ⟨A6, k6⟩ hk6
        refine J.yl (y_move rfl rfl) rfl rfl rfl ?_
        refine J.yl (y_extract rfl rfl rfl) rfl rfl rfl ?_
        refine J.yl (y_extract rfl rfl rfl) rfl rfl rfl ?_
        refine J.alloc rfl rfl rfl rfl Tb.zz87 rfl fun g16 => ?_
        refine J.storeW 0 rfl rfl rfl rfl rfl rfl rfl Tb.sz87 (by first | (simp [length_wl]; done) | rfl) (by first | (simp [length_wl]; done) | rfl) (by first | exact u32s1 _ | exact one_vc _ | (simp; done) | (intro u hu; simp only [List.mem_cons, List.not_mem_nil, or_false] at hu; rcases hu with rfl | rfl <;> rfl)) ?_
        refine J.yl (y_assign rfl rfl) rfl rfl rfl ?_
        refine J.nil ?_
        refine JQ.next hK34 ?_
        refine JC.seq fun K35 hK35 => ?_
        refine JC.seq fun K36 hK36 => ?_
        refine JC.region ?_
        refine J.yl (y_move rfl rfl) rfl rfl rfl ?_
        refine J.yl (Yl.to (v' := .bool false) (y_ne rfl rfl rfl) rfl) rfl rfl rfl ?_
        refine J.yl (y_move rfl rfl) rfl rfl rfl ?_
        refine J.gyes (y_move rfl rfl) rfl rfl rfl rfl rfl rfl ?_
        refine J.gyes (Yl.to (v' := .bool false) (y_ne rfl rfl rfl) rfl) rfl rfl rfl rfl rfl rfl ?_
        refine J.yl (y_pick rfl rfl (fun h => by cases h) (fun _ => rfl)) rfl rfl rfl ?_
        refine J.yl (y_move rfl rfl) rfl rfl rfl ?_
        refine J.gyes (y_move rfl rfl) rfl rfl rfl rfl rfl rfl ?_
        refine J.gyes (Yl.to (v' := .bool false) (y_ne rfl rfl rfl) rfl) rfl rfl rfl rfl rfl rfl ?_
        refine J.yl (y_pick rfl rfl (fun h => by cases h) (fun _ => rfl)) rfl rfl rfl ?_
        refine J.yl (y_move rfl rfl) rfl rfl rfl ?_
        refine J.gyes (y_move rfl rfl) rfl rfl rfl rfl rfl rfl ?_
        refine J.gyes (Yl.to (v' := .bool false) (y_ne rfl rfl rfl) rfl) rfl rfl rfl rfl rfl rfl ?_
        refine J.yl (y_pick rfl rfl (fun h => by cases h) (fun _ => rfl)) rfl rfl rfl ?_
        refine J.yl (y_move rfl rfl) rfl rfl rfl ?_
        refine J.gyes (y_lbW 9 rfl Tb.ag87 Tb.sz87 (by first | (simp [length_wl]; done) | rfl) rfl rfl) rfl rfl rfl rfl rfl rfl ?_
        refine J.gyes (y_lbW 8 rfl Tb.ag87 Tb.sz87 (by first | (simp [length_wl]; done) | rfl) rfl rfl) rfl rfl rfl rfl rfl rfl ?_
        refine J.gon rfl rfl rfl rfl ?_
        refine J.callv rfl rfl rfl rfl Tb.cl63 rfl ((rgsame_fn (l.length : Int) (l.length : Int) L L A1 A2 _ _ k1 k2 rfl rfl (by omega) (fun w h => ckrow 10 rfl h) (fun w h => ckrow 7 rfl h)).to (by rw [sam_one])) ?_
        refine J.gyes ((y_not rfl rfl).to rfl) rfl rfl rfl rfl rfl rfl ?_
        refine J.yl (y_pick rfl rfl (fun h => by cases h) (fun _ => rfl)) rfl rfl rfl ?_
        refine J.yl (y_move rfl rfl) rfl rfl rfl ?_
        refine J.gyes (y_lbW 9 rfl Tb.ag87 Tb.sz87 (by first | (simp [length_wl]; done) | rfl) rfl rfl) rfl rfl rfl rfl rfl rfl ?_
        refine J.gyes (y_lbW 3 rfl Tb.ag87 Tb.sz87 (by first | (simp [length_wl]; done) | rfl) rfl rfl) rfl rfl rfl rfl rfl rfl ?_
        refine J.gon rfl rfl rfl rfl ?_
        refine J.callv rfl rfl rfl rfl Tb.cl63 rfl ((rgsame_fn (l.length : Int) (l.length : Int) L L A1 A4 _ _ k1 k4 rfl rfl (by omega) (fun w h => ckrow 10 rfl h) (fun w h => ckrow 4 rfl h)).to (by rw [sam_one])) ?_
        refine J.gyes ((y_not rfl rfl).to rfl) rfl rfl rfl rfl rfl rfl ?_
        refine J.yl (y_pick rfl rfl (fun h => by cases h) (fun _ => rfl)) rfl rfl rfl ?_
        refine J.yl (y_move rfl rfl) rfl rfl rfl ?_
        refine J.gyes (y_lbW 9 rfl Tb.ag87 Tb.sz87 (by first | (simp [length_wl]; done) | rfl) rfl rfl) rfl rfl rfl rfl rfl rfl ?_
        refine J.gyes (y_lbW 0 rfl Tb.ag87 Tb.sz87 (by first | (simp [length_wl]; done) | rfl) rfl rfl) rfl rfl rfl rfl rfl rfl ?_
        refine J.gon rfl rfl rfl rfl ?_
        refine J.callv rfl rfl rfl rfl Tb.cl63 rfl ((rgsame_fn (l.length : Int) (l.length : Int) L L A1 A6 _ _ k1 k6 rfl rfl (by omega) (fun w h => ckrow 10 rfl h) (fun w h => ckrow 1 rfl h)).to (by rw [sam_one])) ?_
        refine J.gyes ((y_not rfl rfl).to rfl) rfl rfl rfl rfl rfl rfl ?_
        refine J.yl (y_pick rfl rfl (fun h => by cases h) (fun _ => rfl)) rfl rfl rfl ?_
        refine J.nil ?_
        refine JQ.next hK36 ?_
        refine JC.no rfl ?_
        refine JC.skip ?_
        refine JQ.next hK35 ?_
        refine JC.seq fun K37 hK37 => ?_
        refine JC.region ?_
        refine J.yl (y_lbW 9 rfl Tb.ag87 Tb.sz87 (by first | (simp [length_wl]; done) | rfl) rfl rfl) rfl rfl rfl ?_
        refine J.callv rfl rfl rfl rfl Tb.cl68 rfl ((root_fn (l.length : Int) L A1 L.length k1 rfl hk1 (by omega) (fun w h => ckrow 10 rfl h)).to (u := .tuple #[hv (root l), .int .i64 0]) (by rw [r1, r2])) ?_
        refine J.yl (y_move rfl rfl) rfl rfl rfl ?_
        refine J.yl (y_extract rfl rfl rfl) rfl rfl rfl ?_
        refine J.yl (y_extract rfl rfl rfl) rfl rfl rfl ?_
        refine J.alloc rfl rfl rfl rfl Tb.zz30 rfl fun g18 => ?_
        refine J.storeW 0 rfl rfl rfl rfl rfl rfl rfl Tb.sz30 (hcl _) (hcl _) (hc1 _) ?_
        refine J.yl (y_assign rfl rfl) rfl rfl rfl ?_
        refine J.nil ?_
        refine JQ.next hK37 ?_
        refine JC.seq fun K38 hK38 => ?_
        refine JC.drawM [true, false, false, false, false, false, false, false, false, false, false, false] (by kernel_rfl) ?_
        refine D.take 0 (y_move rfl rfl) rfl rfl rfl rfl (by kernel_rfl) (by kernel_rfl) (by kernel_rfl) (PQ.next PQ.body) ?_
        refine D.take 1 ((y_eq rfl rfl rfl).to rfl) rfl rfl rfl rfl (by kernel_rfl) (by kernel_rfl) (by kernel_rfl) (PQ.next PQ.body) ?_
        refine D.take 2 (y_move rfl rfl) rfl rfl rfl rfl (by kernel_rfl) (by kernel_rfl) (by kernel_rfl) (PQ.next PQ.body) ?_
        refine D.takeG 3 (y_lbW 0 rfl Tb.ag30 Tb.sz30 (hcl _) rfl rfl) rfl rfl rfl rfl rfl rfl rfl (by kernel_rfl) (by kernel_rfl) (by kernel_rfl) (PQ.next PQ.body) ?_
        refine D.takeG 4 (y_move rfl rfl) rfl rfl rfl rfl rfl rfl rfl (by kernel_rfl) (by kernel_rfl) (by kernel_rfl) (PQ.next PQ.body) ?_
        refine D.ofJ 5 (by kernel_rfl) rfl fun KhK40 hK40 => ?_
        refine J.gon rfl rfl rfl rfl ?_
        refine J.callv rfl rfl rfl rfl Tb.cl30 rfl (root_spec l A l.length k rfl hk (by omega) (fun w h => hA w h.1)) ?_
        refine J.nil ?_
        refine hK40 _ _ _ (fun w hs => hs.mask [true, false, false, false, false, false, false, false, false, false, false, false]) ?_
        refine D.takeG 6 (Yl.to (v' := .bool true) (y_heq rfl Tryd.underlying30 Tryd.underlying5 Tb.ag5 Tb.sz5 Tb.eg30 rfl rfl) (by rw [decide_eq_true rfl])) rfl rfl rfl rfl rfl rfl rfl (by kernel_rfl) (by kernel_rfl) (by kernel_rfl) (PQ.next PQ.body) ?_
        refine D.take 7 (y_pick rfl rfl (fun _ => rfl) (fun h => by cases h)) rfl rfl rfl rfl (by kernel_rfl) (by kernel_rfl) (by kernel_rfl) (PQ.next PQ.body) ?_
        refine D.take 8 (y_move rfl rfl) rfl rfl rfl rfl (by kernel_rfl) (by kernel_rfl) (by kernel_rfl) (PQ.next PQ.body) ?_
        refine D.ofJ 9 (by kernel_rfl) rfl fun KhK42 hK42 => ?_
        refine J.gon rfl rfl rfl rfl ?_
        refine J.callv rfl rfl rfl rfl Tb.cl57 rfl (ranged_fn) ?_
        refine J.nil ?_
        refine hK42 _ _ _ (fun w hs => hs.mask [true, false, false, false, false, false, false, false, false, false, false, false]) ?_
        refine D.take 10 (y_pick rfl rfl (fun _ => rfl) (fun h => by cases h)) rfl rfl rfl rfl (by kernel_rfl) (by kernel_rfl) (by kernel_rfl) (PQ.next PQ.body) ?_
        refine D.take 11 (y_assign rfl rfl) rfl rfl rfl rfl (by kernel_rfl) (by kernel_rfl) (by kernel_rfl) (PQ.next PQ.body) ?_
        refine D.done (by kernel_rfl) ?_
        refine JQ.next hK38 ?_
        refine JC.ret ?_
        exact ret1 rfl (r_tmp rfl) fun w hs => Post.pure hs
end Go.Proofs.YtjkfeonbioccmaaDoor
