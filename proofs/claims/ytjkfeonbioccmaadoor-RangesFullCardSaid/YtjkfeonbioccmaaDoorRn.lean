/- Speculum proofs: RangesFull, walked: a range takes as many leaves as there may be, and no more; it has at most 13 Hashes. -/
import Derived.Test.YtjkfeonbioccmaaDoorRm
namespace Go.Proofs.YtjkfeonbioccmaaDoor
open Go Go.Sx Go.RowKit
set_option linter.unusedVariables false
set_option linter.unusedSimpArgs false
set_option maxRecDepth 100000
set_option maxHeartbeats 4000000
variable {Gl F : World → Prop}
theorem ones13_all : ((List.range 4097).all fun n => Nat.ble (ones n) 13) = true := by kernel_rfl
theorem ones13 (n : Nat) (h : n ≤ 4096) : ones n ≤ 13 := Nat.le_of_ble_eq_true (List.all_eq_true.1 ones13_all n (List.mem_range.2 (by omega)))
def hb1 (b : UInt8) : H := ⟨b :: List.replicate 31 0, rfl⟩
theorem fill_hb (b : UInt8) : Instr.fill (fun i => some (i * 1, 1)) (hc H.zero).toArray [(0, u8 b)] = some (hc (hb1 b)).toArray := by
  rw [fill_one (vs := [u8 b]) (off := 0) rfl rfl (Nat.le_of_ble_eq_true rfl), Instr.fill]
  rfl
theorem law_RangesFull (mi co : UInt8) : PureFn Tryd.prog Gs 12 [u8 mi, u8 co] F (.bool true) := by
  have hmi := mi.toNat_lt
  have hco := co.toNat_lt
  obtain ⟨S, hS⟩ : ∃ S, 4096 - mi.toNat = S := ⟨_, rfl⟩
  obtain ⟨l, hl⟩ : ∃ l, someL co.toNat 3 = l := ⟨_, rfl⟩
  have hll : l.length = co.toNat := by rw [← hl]; exact length_someL _ _
  have hSo := ones13 S (by omega)
  refine FnSpec.intro Tryd.func12 rfl Tryd.ntmps12 rfl fun X M w => ?_
  refine JC.seq fun K1 hK1 => ?_
  refine JC.region ?_
  refine J.yl (y_assign rfl rfl) rfl rfl rfl ?_
  refine J.nil ?_
  refine JQ.next hK1 ?_
  refine JC.seq fun K2 hK2 => ?_
  refine JC.region ?_
  refine J.yl (y_move rfl rfl) rfl rfl rfl ?_
  refine J.yl (y_8toi rfl (isS Tryd.underlying5) Tryd.underlying3 rfl) rfl rfl rfl ?_
  refine J.callR (Cin := []) rfl rfl rfl rfl Tb.cl29 rfl rfl (some_fnE co.toNat co.toNat 3 l hl rfl (by omega)) ?_
  rintro ⟨A0, k0⟩ hk0
  refine J.yl (y_assign rfl rfl) rfl rfl rfl ?_
  refine J.nil ?_
  refine JQ.next hK2 ?_
  refine JC.seq fun K3 hK3 => ?_
  refine JC.region ?_
  refine J.yl (y_move rfl rfl) rfl rfl rfl ?_
  refine J.yl (y_8toi rfl (isS Tryd.underlying5) Tryd.underlying3 rfl) rfl rfl rfl ?_
  refine J.yl (Yl.to (v' := .int .i64 (S : Int)) (y_sub64 rfl rfl rfl (by omega)) (by congr 1; omega)) rfl rfl rfl ?_
  refine J.yl (y_buildS (pl := [(0, 1), (1, 1)]) (zs := [.int .i64 0, .slice none 0 0]) rfl (by kernel_rfl) (by kernel_rfl) rfl (fill_Rl _)) rfl rfl rfl ?_
  refine J.alloc rfl rfl rfl rfl Tb.zz87 rfl fun g6 => ?_
  refine J.storeW 0 rfl rfl rfl rfl rfl rfl rfl Tb.sz87 (by first | (simp [length_wl]; done) | rfl) (by first | (simp [length_wl]; done) | rfl) (by first | exact u32s1 _ | exact one_vc _ | (simp; done) | (intro u hu; simp only [List.mem_cons, List.not_mem_nil, or_false] at hu; rcases hu with rfl | rfl <;> rfl)) ?_
  refine J.nil ?_
  refine JQ.next hK3 ?_
  refine JC.seq fun K4 hK4 => ?_
  refine JC.seq fun K5 hK5 => ?_
  refine JC.region ?_
  refine J.yl (y_assign rfl rfl) rfl rfl rfl ?_
  refine J.nil ?_
  refine JQ.next hK5 ?_
  refine JC.block ?_
  refine JC.st ?_ (fun w hs => hs.nilrow 30 32)
  refine JC.loopE (σ := Nat × List H × Option Addr × Nat) (M := fun q => [(7, .int .i64 (q.1 : Int))]) (kp := [(0, _), (1, _), (5, _), (6, _)]) (hkp := (okE_cons rfl (okE_cons rfl (okE_cons rfl (okE_cons rfl okE_nil))))) (Dc := fun q => [.row (.slice q.2.2.1 q.2.1.length q.2.2.2) 30 32 q.2.1.length (hcs q.2.1), .box g6 87 [.int .i64 (S : Int), .slice q.2.2.1 q.2.1.length q.2.2.2], .row (.slice A0 co.toNat k0) 30 32 co.toNat (hcs l)]) (H := fun _ => F) (Ψ := fun q => q.1 ≤ 13 ∧ q.2.1.length + ones (S / 2 ^ q.1) = ones S ∧ q.2.1.length ≤ q.2.2.2) (μ := fun q => 13 - q.1) (0, [], none, 0) ⟨Nat.zero_le _, by dsimp only; rw [Nat.pow_zero, Nat.div_one, List.length_nil, Nat.zero_add], Nat.le_refl _⟩ (okE_cons rfl okE_nil) (fun w h => h) (fun sK6 hK6 K6 againK6 => ?_)
  obtain ⟨i, L, A1, k1⟩ := sK6
  dsimp only at hK6 againK6 ⊢
  obtain ⟨hi, hL, hk1⟩ := hK6
  refine JC.seq fun K7 hK7 => ?_
  refine JC.seq fun K8 hK8 => ?_
  refine JC.region ?_
  refine J.yl (y_move rfl rfl) rfl rfl rfl ?_
  refine J.yl (y_lt rfl rfl rfl) rfl rfl rfl ?_
  refine J.nil ?_
  refine JQ.next hK8 ?_
  refine JC.condp rfl (fun h1 => ?_) (fun h1 => ?_)
  · obtain ⟨q, hq⟩ : ∃ q, S / 2 ^ i = q := ⟨_, rfl⟩
    have hhalf : q / 2 = S / 2 ^ (i + 1) := by rw [← hq, div_half]
    rw [hq] at hL
    refine JC.skip ?_
    refine JQ.next hK7 ?_
    refine JC.seq fun K9 hK9 => ?_
    refine JC.block ?_
    refine JC.seq fun K10 hK10 => ?_
    refine JC.region ?_
    refine J.yl (y_fb rfl Tb.fo87_0 rfl) rfl rfl rfl ?_
    refine J.yl (y_lb 1 rfl Tb.ag3 rfl rfl rfl) rfl rfl rfl ?_
    refine J.yl (y_move rfl rfl) rfl rfl rfl ?_
    refine J.yl ((y_shrN S i rfl rfl rfl rfl rfl (by show i ≤ 64; omega)).to (by rw [hq])) rfl rfl rfl ?_
    refine J.yl (y_rem64 rfl rfl rfl (by omega)) rfl rfl rfl ?_
    refine J.yl (y_eq rfl rfl rfl) rfl rfl rfl ?_
    refine J.nil ?_
    refine JQ.next hK10 ?_
    refine JC.condp rfl (fun h2 => ?_) (fun h2 => ?_)
    · have hst := ones_step (show q ≠ 0 by omega)
      refine JC.region ?_
      refine J.yl (y_fb rfl Tb.fo87_1 rfl) rfl rfl rfl ?_
      refine J.yl (y_lb 1 rfl Tb.ag22 rfl rfl rfl) rfl rfl rfl ?_
      refine J.yl (y_move rfl rfl) rfl rfl rfl ?_
      refine J.yl (y_ito8 i rfl (isS Tryd.underlying3) Tryd.underlying5 rfl rfl) rfl rfl rfl ?_
      refine J.yl (y_buildA (cs := hc (hb1 (UInt8.ofNat i))) rfl Tryd.underlying30 Tb.zz30 Tb.sz5 rfl (fill_hb _)) rfl rfl rfl ?_
      refine J.bs1 rfl rfl rfl rfl rfl Tryd.underlying22 Tb.zz30 Tb.sz30 rfl (by decide) rfl (hcl _) fun g32 => ?_
      refine J.append 1 rfl rfl rfl rfl rfl rfl Tryd.underlying22 Tb.zz30 Tb.sz30 Tb.by30 rfl (by decide) rfl (by rw [hcl]) (fun w hs => .inr ⟨rfl, At.box (hs.get (i := 0) rfl)⟩) (hc1 _) (by omega) (by decide) (show _ = (L ++ [hb1 (UInt8.ofNat i)]).length by simp) (show _ = hcs (L ++ [hb1 (UInt8.ofNat i)]) by rw [hcs_append, hcs_one]) fun A k hAx hkx => ?_
      refine J.drop ?_
      refine J.yl (y_fb rfl Tb.fo87_1 rfl) rfl rfl rfl ?_
      refine J.store1 1 rfl rfl rfl rfl rfl rfl rfl Tb.sz22 (by first | (simp; done) | exact Nat.le_of_ble_eq_true rfl) rfl ?_
      refine J.nil ?_
      refine JQ.block_normal (JQ.next hK9 ?_)
      refine JC.region ?_
      refine J.yl (y_move rfl rfl) rfl rfl rfl ?_
      refine J.yl (y_add64 rfl rfl rfl (by omega)) rfl rfl rfl ?_
      refine J.yl (y_assign rfl rfl) rfl rfl rfl ?_
      refine J.nil ?_
      refine againK6 (i + 1, L ++ [hb1 (UInt8.ofNat i)], A, k) _ ⟨by dsimp only; omega, by dsimp only; rw [List.length_append, List.length_singleton, ← hhalf]; omega, hkx⟩ (by dsimp only; omega) (okE_cons (slotI (by dsimp only; omega)) okE_nil) (okE_cons rfl (okE_cons rfl (okE_cons rfl (okE_cons rfl okE_nil))))
    · have hst : ones q = ones (q / 2) := by
        by_cases h0 : q = 0
        · rw [h0]
        · rw [ones_step h0]; omega
      refine JC.skip ?_
      refine JQ.block_normal (JQ.next hK9 ?_)
      refine JC.region ?_
      refine J.yl (y_move rfl rfl) rfl rfl rfl ?_
      refine J.yl (y_add64 rfl rfl rfl (by omega)) rfl rfl rfl ?_
      refine J.yl (y_assign rfl rfl) rfl rfl rfl ?_
      refine J.nil ?_
      refine againK6 (i + 1, L, A1, k1) _ ⟨by dsimp only; omega, by dsimp only; rw [← hhalf]; omega, hk1⟩ (by dsimp only; omega) (okE_cons (slotI (by dsimp only; omega)) okE_nil) (okE_cons rfl (okE_cons rfl (okE_cons rfl (okE_cons rfl okE_nil))))
  · have hi13 : i = 13 := by omega
    subst hi13
    have hL0 : L.length = ones S := by
      rw [show S / 2 ^ 13 = 0 by have : (2 : Nat) ^ 13 = 8192 := rfl; omega, ones_zero] at hL
      exact hL
    have hrl : L.reverse.length = L.length := List.length_reverse ..
    have hv : vld (S : Int) L = true := decide_eq_true ⟨by omega, by omega, by rw [Int.toNat_natCast]; exact hL0⟩
    have hvr : vld (S : Int) L.reverse = true := by rw [vld_len _ _ L hrl]; exact hv
    refine JC.exit ?_
    refine JQ.then_exit (JQ.then_exit (JQ.block_hit (JQ.next hK4 ?_)))
    refine JC.seq fun K12 hK12 => ?_
    refine JC.region ?_
    refine J.yl (y_lbW 1 rfl Tb.ag87 Tb.sz87 (by first | (simp [length_wl]; done) | rfl) rfl rfl) rfl rfl rfl ?_
    refine J.yl (y_move rfl rfl) rfl rfl rfl ?_
    refine J.callR (Cin := []) rfl rfl rfl rfl Tb.cl66 rfl rfl (extend_fn S L.reverse l A1 A0 L.length k1 co.toNat k0 hrl hll (by omega) (fun w h => by rw [List.reverse_reverse]; exact ckrow 0 rfl h) (fun w h => ckrow 2 rfl h) (by unfold in64; omega)) ?_
    rintro ⟨A5, k5⟩ hk5
    refine J.yl (y_move rfl rfl) rfl rfl rfl ?_
    refine J.yl (y_extract rfl rfl rfl) rfl rfl rfl ?_
    refine J.yl (y_extract rfl rfl rfl) rfl rfl rfl ?_
    refine J.alloc rfl rfl rfl rfl Tb.zz87 rfl fun g8 => ?_
    refine J.storeW 0 rfl rfl rfl rfl rfl rfl rfl Tb.sz87 (by first | (simp [length_wl]; done) | rfl) (by first | (simp [length_wl]; done) | rfl) (by first | exact u32s1 _ | exact one_vc _ | (simp; done) | (intro u hu; simp only [List.mem_cons, List.not_mem_nil, or_false] at hu; rcases hu with rfl | rfl <;> rfl)) ?_
    refine J.yl (y_assign rfl rfl) rfl rfl rfl ?_
    refine J.nil ?_
    refine JQ.next hK12 ?_
    refine JC.seq fun K13 hK13 => ?_
    refine JC.seq fun K14 hK14 => ?_
    refine JC.region ?_
    refine J.yl (y_lbW 3 rfl Tb.ag87 Tb.sz87 (by first | (simp [length_wl]; done) | rfl) rfl rfl) rfl rfl rfl ?_
    refine J.callv rfl rfl rfl rfl Tb.cl67 rfl ((valid_fn S L A1 L.length k1 rfl).to (by rw [hv])) ?_
    refine J.yl ((y_not rfl rfl).to rfl) rfl rfl rfl ?_
    refine J.yl (y_move rfl rfl) rfl rfl rfl ?_
    refine J.gyes (y_fb rfl Tb.fo87_1 rfl) rfl rfl rfl rfl rfl rfl ?_
    refine J.gyes (y_lb 3 rfl Tb.ag22 rfl rfl rfl) rfl rfl rfl rfl rfl rfl ?_
    refine J.gyes (y_len rfl Tryd.underlying22 rfl) rfl rfl rfl rfl rfl rfl ?_
    refine J.gyes (y_gt rfl rfl rfl) rfl rfl rfl rfl rfl rfl ?_
    refine J.yl (y_pick rfl rfl (fun h => by cases h) (fun _ => rfl)) rfl rfl rfl ?_
    refine J.nil ?_
    refine JQ.next hK14 ?_
    refine JC.condp rfl (fun h3 => ?_) (fun h3 => ?_)
    · omega
    · refine JC.skip ?_
      refine JQ.next hK13 ?_
      refine JC.seq fun K15 hK15 => ?_
      refine JC.seq fun K16 hK16 => ?_
      refine JC.region ?_
      refine J.yl (y_move rfl rfl) rfl rfl rfl ?_
      refine J.yl (y_move rfl rfl) rfl rfl rfl ?_
      refine J.yl (y_gt rfl rfl rfl) rfl rfl rfl ?_
      refine J.nil ?_
      refine JQ.next hK16 ?_
      refine JC.condp rfl (fun h4 => ?_) (fun h4 => ?_)
      · have e1 : xE S L.reverse l = 60 := by rw [xE, if_pos hvr, if_pos (by omega)]
        have hno : ¬ xOk S L.reverse l := fun h => h.2 (by omega)
        have e2 : xS S L.reverse l = 0 := if_neg hno
        have e3 : xL S L.reverse l = [] := if_neg hno
        refine JC.seq fun K17 hK17 => ?_
        refine JC.region ?_
        refine J.yl (y_move rfl rfl) rfl rfl rfl ?_
        refine J.yl (Yl.to (v' := .bool true) (y_eq rfl rfl rfl) (by rw [e1]; rfl)) rfl rfl rfl ?_
        refine J.yl (y_move rfl rfl) rfl rfl rfl ?_
        refine J.gyes (y_fb rfl Tb.fo87_0 rfl) rfl rfl rfl rfl rfl rfl ?_
        refine J.gyes (y_lb 0 rfl Tb.ag3 rfl rfl rfl) rfl rfl rfl rfl rfl rfl ?_
        refine J.gyes (Yl.to (v' := .bool true) (y_eq rfl rfl rfl) (by rw [e2]; rfl)) rfl rfl rfl rfl rfl rfl ?_
        refine J.yl (y_pick rfl rfl (fun _ => rfl) (fun h => by cases h)) rfl rfl rfl ?_
        refine J.yl (y_move rfl rfl) rfl rfl rfl ?_
        refine J.gyes (y_fb rfl Tb.fo87_1 rfl) rfl rfl rfl rfl rfl rfl ?_
        refine J.gyes (y_lb 0 rfl Tb.ag22 rfl rfl rfl) rfl rfl rfl rfl rfl rfl ?_
        refine J.gyes (y_len rfl Tryd.underlying22 rfl) rfl rfl rfl rfl rfl rfl ?_
        refine J.gyes (Yl.to (v' := .bool true) (y_eq rfl rfl rfl) (by rw [e3]; rfl)) rfl rfl rfl rfl rfl rfl ?_
        refine J.yl (y_pick rfl rfl (fun _ => rfl) (fun h => by cases h)) rfl rfl rfl ?_
        refine J.yl (y_move rfl rfl) rfl rfl rfl ?_
        refine J.gon rfl rfl rfl rfl ?_
        refine J.callv rfl rfl rfl rfl Tb.cl57 rfl (ranged_fn) ?_
        refine J.yl (y_pick rfl rfl (fun _ => rfl) (fun h => by cases h)) rfl rfl rfl ?_
        refine J.yl (y_assign rfl rfl) rfl rfl rfl ?_
        refine J.nil ?_
        refine JQ.next hK17 ?_
        refine JC.ret ?_
        refine JQ.then_ret ?_
        exact ret1 rfl (r_tmp rfl) fun w hs => Post.pure hs
      · have e1 : xE S L.reverse l = 0 := by rw [xE, if_pos hvr, if_neg (by omega)]
        have hok : xOk S L.reverse l := ⟨hvr, by omega⟩
        have e2 : xS S L.reverse l = (S : Int) + (co.toNat : Int) := by rw [xS, if_pos hok, hll]
        have e3 : (xL S L.reverse l).length = ones (S + co.toNat) := by
          rw [xL, if_pos hok, List.length_reverse, Int.toNat_natCast, ext_ones l S _ (by rw [hrl]; exact hL0), hll]
        have hb13 := ones13 (S + co.toNat) (by omega)
        have hv5 : vld (xS S L.reverse l) (xL S L.reverse l) = true := decide_eq_true ⟨by omega, by omega, by rw [e3, e2]; congr 1⟩
        refine JC.skip ?_
        refine JQ.next hK15 ?_
        refine JC.seq fun K18 hK18 => ?_
        refine JC.region ?_
        refine J.yl (y_move rfl rfl) rfl rfl rfl ?_
        refine J.yl (Yl.to (v' := .bool true) (y_eq rfl rfl rfl) (by rw [e1]; rfl)) rfl rfl rfl ?_
        refine J.yl (y_move rfl rfl) rfl rfl rfl ?_
        refine J.gyes (y_lbW 0 rfl Tb.ag87 Tb.sz87 (by first | (simp [length_wl]; done) | rfl) rfl rfl) rfl rfl rfl rfl rfl rfl ?_
        refine J.gon rfl rfl rfl rfl ?_
        refine J.callv rfl rfl rfl rfl Tb.cl67 rfl ((valid_fn (xS S L.reverse l) (xL S L.reverse l) A5 _ k5 rfl).to (by rw [hv5])) ?_
        refine J.yl (y_pick rfl rfl (fun _ => rfl) (fun h => by cases h)) rfl rfl rfl ?_
        refine J.yl (y_move rfl rfl) rfl rfl rfl ?_
        refine J.gyes (y_fb rfl Tb.fo87_0 rfl) rfl rfl rfl rfl rfl rfl ?_
        refine J.gyes (y_lb 0 rfl Tb.ag3 rfl rfl rfl) rfl rfl rfl rfl rfl rfl ?_
        refine J.gyes (y_fb rfl Tb.fo87_0 rfl) rfl rfl rfl rfl rfl rfl ?_
        refine J.gyes (y_lb 3 rfl Tb.ag3 rfl rfl rfl) rfl rfl rfl rfl rfl rfl ?_
        refine J.gyes (y_move rfl rfl) rfl rfl rfl rfl rfl rfl ?_
        refine J.gyes (y_len rfl Tryd.underlying22 rfl) rfl rfl rfl rfl rfl rfl ?_
        refine J.gyes (y_add64 rfl rfl rfl (by omega)) rfl rfl rfl rfl rfl rfl ?_
        refine J.gyes (Yl.to (v' := .bool true) (y_eq rfl rfl rfl) (by rw [e2, decide_eq_true rfl])) rfl rfl rfl rfl rfl rfl ?_
        refine J.yl (y_pick rfl rfl (fun _ => rfl) (fun h => by cases h)) rfl rfl rfl ?_
        refine J.yl (y_move rfl rfl) rfl rfl rfl ?_
        refine J.gyes (y_fb rfl Tb.fo87_1 rfl) rfl rfl rfl rfl rfl rfl ?_
        refine J.gyes (y_lb 0 rfl Tb.ag22 rfl rfl rfl) rfl rfl rfl rfl rfl rfl ?_
        refine J.gyes (y_len rfl Tryd.underlying22 rfl) rfl rfl rfl rfl rfl rfl ?_
        refine J.gyes (Yl.to (v' := .bool true) (y_le rfl rfl rfl) (by rw [decide_eq_true (by omega)])) rfl rfl rfl rfl rfl rfl ?_
        refine J.yl (y_pick rfl rfl (fun _ => rfl) (fun h => by cases h)) rfl rfl rfl ?_
        refine J.yl (y_move rfl rfl) rfl rfl rfl ?_
        refine J.gon rfl rfl rfl rfl ?_
        refine J.callv rfl rfl rfl rfl Tb.cl57 rfl (ranged_fn) ?_
        refine J.yl (y_pick rfl rfl (fun _ => rfl) (fun h => by cases h)) rfl rfl rfl ?_
        refine J.yl (y_assign rfl rfl) rfl rfl rfl ?_
        refine J.nil ?_
        refine JQ.next hK18 ?_
        refine JC.ret ?_
        exact ret1 rfl (r_tmp rfl) fun w hs => Post.pure hs
end Go.Proofs.YtjkfeonbioccmaaDoor
