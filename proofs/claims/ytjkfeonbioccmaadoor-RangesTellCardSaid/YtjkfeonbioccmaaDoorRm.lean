/- Speculum proofs: RangesPart, walked: the parts of any leaves, that stand behind any others, and their range, are the document's; so is one leaf more, and whether two ranges are the same. -/
import Derived.Test.YtjkfeonbioccmaaDoorMn
namespace Go.Proofs.YtjkfeonbioccmaaDoor
open Go Go.Sx Go.RowKit
set_option linter.unusedVariables false
set_option linter.unusedSimpArgs false
set_option maxRecDepth 100000
set_option maxHeartbeats 4000000
variable {Gl F : World → Prop}
theorem pL_le (a : Int) (l : List H) : (pL a l).length ≤ l.length := by
  unfold pL
  split
  · exact Nat.zero_le _
  · rw [cutR_len]; exact pts_len _ _ _ (Nat.le_refl _)
theorem xL_le (s : Int) (rs l : List H) : (xL s rs l).length ≤ 127 := by
  by_cases h : xOk s rs l
  · have hv3 : 0 ≤ s ∧ s ≤ 4096 ∧ rs.length = ones s.toNat := of_decide_eq_true h.1
    have h2 := h.2
    rw [xL, if_pos h, List.length_reverse, ext_ones l s.toNat rs hv3.2.2]
    exact ones_le _ (by omega)
  · rw [xL, if_neg h]; exact Nat.zero_le _
theorem sam_self (s : Int) (l : List H) : sam s s l l = true := decide_eq_true ⟨rfl, rfl⟩
theorem law_RangesPart (a s : Int) (l rs : List H) (A B : Option Addr) (n k m km : Nat) (ha : in64 a) (hs : in64 s) (hn : rs.length = n) (hm : l.length = m) (hkm : m ≤ km) (hA : ∀ w, F w → Sl w A (hcs rs.reverse)) (hB : ∀ w, F w → Sl w B (hcs l)) :
    PureFn Tryd.prog Gs 11 [.int .i64 a, .slice B m km, .agg #[.int .i64 s, .slice A n k]] F (.bool true) := by
  have hnr : rs.reverse.length = n := by rw [List.length_reverse]; exact hn
  refine FnSpec.intro Tryd.func11 rfl Tryd.ntmps11 rfl fun X M w => ?_
  refine JC.seq fun K1 hK1 => ?_
  refine JC.region ?_
  refine J.box rfl rfl rfl rfl rfl rfl fun g5 => ?_
  refine J.yl (y_assign rfl rfl) rfl rfl rfl ?_
  refine J.nil ?_
  refine JQ.next hK1 ?_
  refine JC.seq fun K2 hK2 => ?_
  refine JC.seq fun K3 hK3 => ?_
  refine JC.region ?_
  refine J.yl (y_lbW 0 rfl Tb.ag87 Tb.sz87 (by first | (simp [length_wl]; done) | rfl) rfl rfl) rfl rfl rfl ?_
  refine J.callv rfl rfl rfl rfl Tb.cl56 rfl (rgreat_fn s A n k) ?_
  refine J.ylp (y_move rfl rfl) rfl rfl rfl (fun h1 => ?_) (fun h1 => ?_)
  · refine J.gno (b := true) rfl rfl rfl rfl rfl rfl ?_
    refine J.gno (b := true) rfl rfl rfl rfl rfl rfl ?_
    refine J.gno (b := true) rfl rfl rfl rfl rfl rfl ?_
    refine J.yl (y_pick rfl rfl (fun _ => rfl) (fun h => by cases h)) rfl rfl rfl ?_
    refine J.nil ?_
    refine JQ.next hK3 ?_
    refine JC.yes rfl ?_
    refine JC.seq fun K4 hK4 => ?_
    refine JC.region ?_
    refine J.callv rfl rfl rfl rfl Tb.cl57 rfl (ranged_fn) ?_
    refine J.yl (y_assign rfl rfl) rfl rfl rfl ?_
    refine J.nil ?_
    refine JQ.next hK4 ?_
    refine JC.ret ?_
    refine JQ.then_ret ?_
    exact ret1 rfl (r_tmp rfl) fun w hs => Post.pure hs
  · refine J.gyes (y_move rfl rfl) rfl rfl rfl rfl rfl rfl ?_
    refine J.gyes (y_len rfl Tryd.underlying22 rfl) rfl rfl rfl rfl rfl rfl ?_
    refine J.gyes (y_gt rfl rfl rfl) rfl rfl rfl rfl rfl rfl ?_
    refine J.yl (y_pick rfl rfl (fun h => by cases h) (fun _ => rfl)) rfl rfl rfl ?_
    refine J.nil ?_
    refine JQ.next hK3 ?_
    refine JC.condp rfl (fun h2 => ?_) (fun h2 => ?_)
    · refine JC.seq fun K5 hK5 => ?_
      refine JC.region ?_
      refine J.callv rfl rfl rfl rfl Tb.cl57 rfl (ranged_fn) ?_
      refine J.yl (y_assign rfl rfl) rfl rfl rfl ?_
      refine J.nil ?_
      refine JQ.next hK5 ?_
      refine JC.ret ?_
      refine JQ.then_ret ?_
      exact ret1 rfl (r_tmp rfl) fun w hs => Post.pure hs
    · have hx1 := xL_le 0 [] l
      refine JC.skip ?_
      refine JQ.next hK2 ?_
      refine JC.seq fun K6 hK6 => ?_
      refine JC.seq fun K7 hK7 => ?_
      refine JC.region ?_
      refine J.yl (y_assign rfl rfl) rfl rfl rfl ?_
      refine J.nil ?_
      refine JQ.next hK7 ?_
      refine JC.block ?_
      refine JC.loopE (σ := Nat) (M := fun q => [(7, .int .i64 (q : Int))]) (kp := [(0, _), (1, _), (5, _)]) (hkp := (okE_cons rfl (okE_cons rfl (okE_cons rfl okE_nil)))) (Dc := fun _ => [.box g5 87 [.int .i64 s, .slice A n k]]) (H := fun _ => F) (Ψ := fun q => q ≤ 2) (μ := fun q => 2 - q) 0 (by omega) (okE_cons rfl okE_nil) (fun w h => h) (fun q hq K8 againK8 => ?_)
      refine JC.seq fun K9 hK9 => ?_
      refine JC.seq fun K10 hK10 => ?_
      refine JC.region ?_
      refine J.yl (y_move rfl rfl) rfl rfl rfl ?_
      refine J.yl (y_lt rfl rfl rfl) rfl rfl rfl ?_
      refine J.nil ?_
      refine JQ.next hK10 ?_
      refine JC.condp rfl (fun h3 => ?_) (fun h3 => ?_)
      · refine JC.skip ?_
        refine JQ.next hK9 ?_
        refine JC.seq fun K11 hK11 => ?_
        refine JC.block ?_
        refine JC.seq fun K12 hK12 => ?_
        refine JC.region ?_
        refine J.yl (y_move rfl rfl) rfl rfl rfl ?_
        refine J.yl (y_assign rfl rfl) rfl rfl rfl ?_
        refine J.nil ?_
        refine JQ.next hK12 ?_
        refine JC.seq fun K13 hK13 => ?_
        refine JC.seq fun K14 hK14 => ?_
        refine JC.region ?_
        refine J.yl (y_move rfl rfl) rfl rfl rfl ?_
        refine J.yl (y_eq rfl rfl rfl) rfl rfl rfl ?_
        refine J.nil ?_
        refine JQ.next hK14 ?_
        refine JC.cutE (σ := Int × Unit) (M := fun p => [(8, .int .i64 p.1)]) (kp := [(0, _), (1, _), (5, _), (7, _)]) (hkp := (okE_cons rfl (okE_cons rfl (okE_cons rfl (okE_cons rfl okE_nil))))) (Dc := fun _ => [.box g5 87 [.int .i64 s, .slice A n k]]) (H := fun _ => F) (Ψ := fun p => in64 p.1) (fun K15 againK15 => ?_) (fun sK15 hK15 => ?_)
        · refine JC.condp rfl (fun h4 => ?_) (fun h4 => ?_)
          · obtain ⟨x, hx, hxb⟩ : ∃ x, andI a 4095 = x ∧ x ≤ 4095 := ⟨_, rfl, andI_le _ 4095 (by decide)⟩
            refine JC.region ?_
            refine J.yl (y_move rfl rfl) rfl rfl rfl ?_
            refine J.yl ((y_andI 4095 rfl rfl rfl rfl (by decide)).to (by rw [hx])) rfl rfl rfl ?_
            refine J.yl (y_assign rfl rfl) rfl rfl rfl ?_
            refine J.nil ?_
            refine againK15 ((x : Int), ()) _ (by unfold in64; dsimp only; omega) (okE_cons rfl okE_nil) (okE_cons rfl (okE_cons rfl (okE_cons rfl (okE_cons rfl okE_nil))))
          · refine JC.skip ?_
            refine againK15 (a, ()) _ ha (okE_cons rfl okE_nil) (okE_cons rfl (okE_cons rfl (okE_cons rfl (okE_cons rfl okE_nil))))
        · obtain ⟨b, u⟩ := sK15
          dsimp only at hK15 ⊢
          obtain hb := hK15
          refine JQ.next hK13 ?_
          refine JC.seq fun K16 hK16 => ?_
          refine JC.region ?_
          refine J.yl (y_move rfl rfl) rfl rfl rfl ?_
          refine J.yl (y_move rfl rfl) rfl rfl rfl ?_
          have hb64 : in64 b := by assumption
          have hp := pL_le b l
          refine J.callR (Cin := []) rfl rfl rfl rfl Tb.cl58 rfl rfl (part_fn b l B m km hm hkm (by omega) (fun w h => hB w h.1) hb64) ?_
          rintro ⟨A1, k1⟩ hk1
          refine J.yl (y_move rfl rfl) rfl rfl rfl ?_
          refine J.yl (y_extract rfl rfl rfl) rfl rfl rfl ?_
          refine J.yl (y_extract rfl rfl rfl) rfl rfl rfl ?_
          refine J.yl (y_assign rfl rfl) rfl rfl rfl ?_
          refine J.yl (y_assign rfl rfl) rfl rfl rfl ?_
          refine J.nil ?_
          refine JQ.next hK16 ?_
          refine JC.seq fun K17 hK17 => ?_
          refine JC.region ?_
          refine J.yl (y_move rfl rfl) rfl rfl rfl ?_
          refine J.yl (y_move rfl rfl) rfl rfl rfl ?_
          refine J.callR (Cin := []) rfl rfl rfl rfl Tb.cl59 rfl rfl (rpart_fn b l B m km hm hkm (by omega) (fun w h => hB w h.1)) ?_
          rintro ⟨A2, k2⟩ hk2
          refine J.yl (y_move rfl rfl) rfl rfl rfl ?_
          refine J.yl (y_extract rfl rfl rfl) rfl rfl rfl ?_
          refine J.yl (y_extract rfl rfl rfl) rfl rfl rfl ?_
          refine J.yl (y_assign rfl rfl) rfl rfl rfl ?_
          refine J.yl (y_assign rfl rfl) rfl rfl rfl ?_
          refine J.nil ?_
          refine JQ.next hK17 ?_
          refine JC.seq fun K18 hK18 => ?_
          refine JC.region ?_
          refine J.yl (y_move rfl rfl) rfl rfl rfl ?_
          refine J.yl (y_move rfl rfl) rfl rfl rfl ?_
          refine J.callv rfl rfl rfl rfl Tb.cl26 rfl ((same_fn (pL b l) (pL b l) A1 A2 _ _ k1 k2 rfl rfl (by omega) (fun w h => ckrow 1 rfl h) (fun w h => ckrow 0 rfl h)).to (by rw [decide_eq_true rfl])) ?_
          refine J.yl ((y_not rfl rfl).to rfl) rfl rfl rfl ?_
          refine J.yl (y_move rfl rfl) rfl rfl rfl ?_
          refine J.gyes (y_move rfl rfl) rfl rfl rfl rfl rfl rfl ?_
          refine J.gyes (y_move rfl rfl) rfl rfl rfl rfl rfl rfl ?_
          refine J.gyes (y_ne rfl rfl rfl) rfl rfl rfl rfl rfl rfl ?_
          refine J.yl (y_pick rfl rfl (fun h => by cases h) (fun _ => rfl)) rfl rfl rfl ?_
          refine J.nil ?_
          refine JQ.next hK18 ?_
          refine JC.condn rfl (fun h5 => ?_) (fun h5 => ?_)
          · exact absurd rfl h5
          · refine JC.skip ?_
            refine JQ.block_normal (JQ.next hK11 ?_)
            refine JC.region ?_
            refine J.yl (y_move rfl rfl) rfl rfl rfl ?_
            refine J.yl (y_add64 rfl rfl rfl (by omega)) rfl rfl rfl ?_
            refine J.yl (y_assign rfl rfl) rfl rfl rfl ?_
            refine J.nil ?_
            refine JQ.drop ?_
            refine JQ.drop ?_
            refine againK8 (q + 1) _ (by omega) (by omega) (okE_cons (slotI (by omega)) okE_nil) (okE_cons rfl (okE_cons rfl (okE_cons rfl okE_nil)))
      · refine JC.exit ?_
        refine JQ.then_exit (JQ.then_exit (JQ.block_hit (JQ.next hK6 ?_)))
        refine JC.seq fun K19 hK19 => ?_
        refine JC.region ?_
        refine J.yl (y_move rfl rfl) rfl rfl rfl ?_
        refine J.callR (Cin := []) rfl rfl rfl rfl Tb.cl60 rfl rfl (rgof_fn l B m km hm (fun w h => hB w h.1)) ?_
        rintro ⟨A1, k1⟩ hk1
        refine J.yl (y_move rfl rfl) rfl rfl rfl ?_
        refine J.yl (y_extract rfl rfl rfl) rfl rfl rfl ?_
        refine J.yl (y_extract rfl rfl rfl) rfl rfl rfl ?_
        refine J.alloc rfl rfl rfl rfl Tb.zz87 rfl fun g13 => ?_
        refine J.storeW 0 rfl rfl rfl rfl rfl rfl rfl Tb.sz87 (by first | (simp [length_wl]; done) | rfl) (by first | (simp [length_wl]; done) | rfl) (by first | exact u32s1 _ | exact one_vc _ | (simp; done) | (intro u hu; simp only [List.mem_cons, List.not_mem_nil, or_false] at hu; rcases hu with rfl | rfl <;> rfl)) ?_
        refine J.yl (y_assign rfl rfl) rfl rfl rfl ?_
        refine J.nil ?_
        refine JQ.next hK19 ?_
        refine JC.seq fun K20 hK20 => ?_
        refine JC.region ?_
        refine J.yl (y_move rfl rfl) rfl rfl rfl ?_
        refine J.callR (Cin := []) rfl rfl rfl rfl Tb.cl61 rfl rfl (rof_fn l B m km hm hkm (by omega) (fun w h => hB w h.1)) ?_
        rintro ⟨A2, k2⟩ hk2
        refine J.yl (y_move rfl rfl) rfl rfl rfl ?_
        refine J.yl (y_extract rfl rfl rfl) rfl rfl rfl ?_
        refine J.yl (y_extract rfl rfl rfl) rfl rfl rfl ?_
        refine J.alloc rfl rfl rfl rfl Tb.zz87 rfl fun g15 => ?_
        refine J.storeW 0 rfl rfl rfl rfl rfl rfl rfl Tb.sz87 (by first | (simp [length_wl]; done) | rfl) (by first | (simp [length_wl]; done) | rfl) (by first | exact u32s1 _ | exact one_vc _ | (simp; done) | (intro u hu; simp only [List.mem_cons, List.not_mem_nil, or_false] at hu; rcases hu with rfl | rfl <;> rfl)) ?_
        refine J.yl (y_assign rfl rfl) rfl rfl rfl ?_
        refine J.nil ?_
        refine JQ.next hK20 ?_
        refine JC.seq fun K21 hK21 => ?_
        refine JC.seq fun K22 hK22 => ?_
        refine JC.drawM [true, true, true, true, true] (by kernel_rfl) ?_
        refine D.take 0 (y_lbW 2 rfl Tb.ag87 Tb.sz87 (by first | (simp [length_wl]; done) | rfl) rfl rfl) rfl rfl rfl rfl (by kernel_rfl) (by kernel_rfl) (by kernel_rfl) (PQ.next (PQ.next PQ.body)) ?_
        refine D.take 1 (y_lbW 0 rfl Tb.ag87 Tb.sz87 (by first | (simp [length_wl]; done) | rfl) rfl rfl) rfl rfl rfl rfl (by kernel_rfl) (by kernel_rfl) (by kernel_rfl) (PQ.next (PQ.next PQ.body)) ?_
        refine D.ofJ 2 (by kernel_rfl) rfl fun KhK24 hK24 => ?_
        refine J.callv rfl rfl rfl rfl Tb.cl62 rfl ((rrsame_fn (xS 0 [] l) (xS 0 [] l) (xL 0 [] l) (xL 0 [] l) A1 A2 _ _ k1 k2 rfl rfl (by omega) (fun w h => ckrow 3 rfl h) (fun w h => ckrow 1 rfl h)).to (by rw [sam_self])) ?_
        refine J.nil ?_
        refine hK24 _ _ _ (fun w hs => hs.mask [true, true, true, true, true]) ?_
        refine D.take 3 ((y_not rfl rfl).to rfl) rfl rfl rfl rfl (by kernel_rfl) (by kernel_rfl) (by kernel_rfl) (PQ.next (PQ.next PQ.body)) ?_
        refine D.take 4 (y_move rfl rfl) rfl rfl rfl rfl (by kernel_rfl) (by kernel_rfl) (by kernel_rfl) (PQ.next (PQ.next PQ.body)) ?_
        refine D.takeG 5 (y_move rfl rfl) rfl rfl rfl rfl rfl rfl rfl (by kernel_rfl) (by kernel_rfl) (by kernel_rfl) (PQ.next (PQ.next PQ.body)) ?_
        refine D.takeG 6 (y_move rfl rfl) rfl rfl rfl rfl rfl rfl rfl (by kernel_rfl) (by kernel_rfl) (by kernel_rfl) (PQ.next (PQ.next PQ.body)) ?_
        refine D.takeG 7 (Yl.to (v' := .bool false) (y_ne rfl rfl rfl) (by rw [decide_eq_true rfl]; first | done | rfl)) rfl rfl rfl rfl rfl rfl rfl (by kernel_rfl) (by kernel_rfl) (by kernel_rfl) (PQ.next (PQ.next PQ.body)) ?_
        refine D.take 8 (y_pick rfl rfl (fun h => by cases h) (fun _ => rfl)) rfl rfl rfl rfl (by kernel_rfl) (by kernel_rfl) (by kernel_rfl) (PQ.next (PQ.next PQ.body)) ?_
        refine D.take 9 (y_move rfl rfl) rfl rfl rfl rfl (by kernel_rfl) (by kernel_rfl) (by kernel_rfl) (PQ.next (PQ.next PQ.body)) ?_
        refine D.takeG 10 (y_lbW 2 rfl Tb.ag87 Tb.sz87 (by first | (simp [length_wl]; done) | rfl) rfl rfl) rfl rfl rfl rfl rfl rfl rfl (by kernel_rfl) (by kernel_rfl) (by kernel_rfl) (PQ.next (PQ.next PQ.body)) ?_
        refine D.takeG 11 (y_lbW 4 rfl Tb.ag87 Tb.sz87 (by first | (simp [length_wl]; done) | rfl) rfl rfl) rfl rfl rfl rfl rfl rfl rfl (by kernel_rfl) (by kernel_rfl) (by kernel_rfl) (PQ.next (PQ.next PQ.body)) ?_
        refine D.takeG 13 (y_lbW 0 rfl Tb.ag87 Tb.sz87 (by first | (simp [length_wl]; done) | rfl) rfl rfl) rfl rfl rfl rfl rfl rfl rfl (by kernel_rfl) (by kernel_rfl) (by kernel_rfl) (PQ.next (PQ.next PQ.body)) ?_
        refine D.takeG 14 (y_lbW 4 rfl Tb.ag87 Tb.sz87 (by first | (simp [length_wl]; done) | rfl) rfl rfl) rfl rfl rfl rfl rfl rfl rfl (by kernel_rfl) (by kernel_rfl) (by kernel_rfl) (PQ.next (PQ.next PQ.body)) ?_
        refine D.ofJ 12 (by kernel_rfl) rfl fun KhK26 hK26 => ?_
        refine J.gon rfl rfl rfl rfl ?_
        refine J.callv rfl rfl rfl rfl Tb.cl63 rfl (rgsame_fn (xS 0 [] l) s (xL 0 [] l) rs.reverse A1 A _ _ k1 k rfl hnr (by omega) (fun w h => ckrow 3 rfl h) (fun w h => hA w h.1)) ?_
        refine J.nil ?_
        refine hK26 _ _ _ (fun w hs => hs.mask [true, true, true, true, true]) ?_
        refine D.ofJ 15 (by kernel_rfl) rfl fun KhK28 hK28 => ?_
        refine J.gon rfl rfl rfl rfl ?_
        refine J.callv rfl rfl rfl rfl Tb.cl62 rfl (rrsame_fn (xS 0 [] l) s (xL 0 [] l) rs.reverse A2 A _ _ k2 k rfl hnr (by omega) (fun w h => ckrow 1 rfl h) (fun w h => hA w h.1)) ?_
        refine J.nil ?_
        refine hK28 _ _ _ (fun w hs => hs.mask [true, true, true, true, true]) ?_
        refine D.takeG 16 (Yl.to (v' := .bool false) (y_bne rfl Tryd.underlying4 rfl rfl) (by simp)) rfl rfl rfl rfl rfl rfl rfl (by kernel_rfl) (by kernel_rfl) (by kernel_rfl) (PQ.next (PQ.next PQ.body)) ?_
        refine D.take 17 (y_pick rfl rfl (fun h => by cases h) (fun _ => rfl)) rfl rfl rfl rfl (by kernel_rfl) (by kernel_rfl) (by kernel_rfl) (PQ.next (PQ.next PQ.body)) ?_
        refine D.take 18 (y_move rfl rfl) rfl rfl rfl rfl (by kernel_rfl) (by kernel_rfl) (by kernel_rfl) (PQ.next (PQ.next PQ.body)) ?_
        refine D.takeG 19 (y_lbW 4 rfl Tb.ag87 Tb.sz87 (by first | (simp [length_wl]; done) | rfl) rfl rfl) rfl rfl rfl rfl rfl rfl rfl (by kernel_rfl) (by kernel_rfl) (by kernel_rfl) (PQ.next (PQ.next PQ.body)) ?_
        refine D.takeG 20 (y_lbW 4 rfl Tb.ag87 Tb.sz87 (by first | (simp [length_wl]; done) | rfl) rfl rfl) rfl rfl rfl rfl rfl rfl rfl (by kernel_rfl) (by kernel_rfl) (by kernel_rfl) (PQ.next (PQ.next PQ.body)) ?_
        refine D.ofJ 21 (by kernel_rfl) rfl fun KhK30 hK30 => ?_
        refine J.gon rfl rfl rfl rfl ?_
        refine J.callv rfl rfl rfl rfl Tb.cl63 rfl ((rgsame_fn s s rs.reverse rs.reverse A A n n k k hnr hnr (by omega) (fun w h => hA w h.1) (fun w h => hA w h.1)).to (by rw [sam_self])) ?_
        refine J.nil ?_
        refine hK30 _ _ _ (fun w hs => hs.mask [true, true, true, true, true]) ?_
        refine D.takeG 22 ((y_not rfl rfl).to rfl) rfl rfl rfl rfl rfl rfl rfl (by kernel_rfl) (by kernel_rfl) (by kernel_rfl) (PQ.next (PQ.next PQ.body)) ?_
        refine D.take 23 (y_pick rfl rfl (fun h => by cases h) (fun _ => rfl)) rfl rfl rfl rfl (by kernel_rfl) (by kernel_rfl) (by kernel_rfl) (PQ.next (PQ.next PQ.body)) ?_
        refine D.done (by kernel_rfl) ?_
        refine JQ.next hK22 ?_
        refine JC.no rfl ?_
        refine JC.skip ?_
        refine JQ.next hK21 ?_
        refine JC.seq fun K31 hK31 => ?_
        refine JC.seq fun K32 hK32 => ?_
        refine JC.region ?_
        refine J.yl (y_assign rfl rfl) rfl rfl rfl ?_
        refine J.nil ?_
        refine JQ.next hK32 ?_
        refine JC.block ?_
        refine JC.loopE (σ := Nat) (M := fun q => [(17, .int .i64 (q : Int))]) (kp := [(1, _), (5, _)]) (hkp := (okE_cons rfl (okE_cons rfl okE_nil))) (Dc := fun _ => [.box g5 87 [.int .i64 s, .slice A n k]]) (H := fun _ => F) (Ψ := fun q => q ≤ m) (μ := fun q => m - q) 0 (by omega) (okE_cons rfl okE_nil) (fun w h => h.forget (.cons _ (.cons _ (.cons _ (.cons _ (List.Sublist.refl _)))))) (fun i hi K33 againK33 => ?_)
        refine JC.seq fun K34 hK34 => ?_
        refine JC.seq fun K35 hK35 => ?_
        refine JC.region ?_
        refine J.yl (y_move rfl rfl) rfl rfl rfl ?_
        refine J.yl (y_move rfl rfl) rfl rfl rfl ?_
        refine J.yl (y_len rfl Tryd.underlying22 rfl) rfl rfl rfl ?_
        refine J.yl (y_lt rfl rfl rfl) rfl rfl rfl ?_
        refine J.nil ?_
        refine JQ.next hK35 ?_
        refine JC.condp rfl (fun h6 => ?_) (fun h6 => ?_)
        · obtain ⟨x, hx⟩ : ∃ x, l[i]? = some x := ⟨_, List.getElem?_eq_getElem (show i < l.length by omega)⟩
          have hseg : (l.take (i + 1)).drop i = [x] := by
            rw [List.take_add_one, hx, Option.toList_some, List.drop_append_of_le_length (by rw [List.length_take]; omega), List.drop_of_length_le (by rw [List.length_take]; omega), List.nil_append]
          have hx2 := xL_le s rs [x]
          refine JC.skip ?_
          refine JQ.next hK34 ?_
          refine JC.seq fun K36 hK36 => ?_
          refine JC.block ?_
          refine JC.seq fun K37 hK37 => ?_
          refine JC.cutE (σ := Nat × Option Addr × Nat) (M := fun q => [(18, .pointer (some ⟨q.1, 0, none⟩)), (19, .int .i64 (xE s rs [x]))]) (kp := [(1, _), (5, _), (17, _)]) (hkp := (okE_cons rfl (okE_cons rfl (okE_cons rfl okE_nil)))) (Dc := fun q => [.box q.1 87 [.int .i64 (xS s rs [x]), .slice q.2.1 (xL s rs [x]).length q.2.2], .row (.slice q.2.1 (xL s rs [x]).length q.2.2) 30 32 (xL s rs [x]).length (hcs (xL s rs [x])), .box g5 87 [.int .i64 s, .slice A n k]]) (H := fun _ => F) (Ψ := fun q => (xL s rs [x]).length ≤ q.2.2) (fun K38 againK38 => ?_) (fun sK38 hK38 => ?_)
          refine JC.drawM [true] (by kernel_rfl) ?_
          refine D.take 0 (y_lbW 0 rfl Tb.ag87 Tb.sz87 (by first | (simp [length_wl]; done) | rfl) rfl rfl) rfl rfl rfl rfl (by kernel_rfl) (by kernel_rfl) (by kernel_rfl) (PQ.next (PQ.next (PQ.block (PQ.next (PQ.next (PQ.block (PQ.next PQ.body))))))) ?_
          refine D.take 1 (y_move rfl rfl) rfl rfl rfl rfl (by kernel_rfl) (by kernel_rfl) (by kernel_rfl) (PQ.next (PQ.next (PQ.block (PQ.next (PQ.next (PQ.block (PQ.next PQ.body))))))) ?_
          refine D.take 2 (y_move rfl rfl) rfl rfl rfl rfl (by kernel_rfl) (by kernel_rfl) (by kernel_rfl) (PQ.next (PQ.next (PQ.block (PQ.next (PQ.next (PQ.block (PQ.next PQ.body))))))) ?_
          · refine D.take 3 (y_hidx i rfl Tryd.underlying22 Tb.sz30 rfl rfl rfl hm (by omega) (fun w hs => hB w hs.fact)) rfl rfl rfl rfl (by kernel_rfl) (by kernel_rfl) (by kernel_rfl) (PQ.next (PQ.next (PQ.block (PQ.next (PQ.next (PQ.block (PQ.next PQ.body))))))) ?_
            refine D.take 4 (y_hld x rfl Tb.ag30 Tb.sz30 rfl hx (fun w hs => hB w hs.fact)) rfl rfl rfl rfl (by kernel_rfl) (by kernel_rfl) (by kernel_rfl) (PQ.next (PQ.next (PQ.block (PQ.next (PQ.next (PQ.block (PQ.next PQ.body))))))) ?_
            refine D.two 5 9 (by kernel_rfl) ?_ ?_
            · refine DS.ofJ rfl fun KhK40 hK40 => ?_
              refine J.callR (Cin := []) rfl rfl rfl rfl Tb.cl64 rfl rfl (rgappend_fn s rs x A n k hn (by omega) (fun w h => hA w h.1) hs) ?_
              rintro ⟨A3, k3⟩ hk3
              refine J.nil ?_
              refine hK40 _ _ _ (fun w hs => hs.mask [false, true]) ?_
              refine D.take 6 (y_move rfl rfl) rfl rfl rfl rfl (by kernel_rfl) (by kernel_rfl) (by kernel_rfl) (PQ.next (PQ.next (PQ.block (PQ.next (PQ.next (PQ.block (PQ.next PQ.body))))))) ?_
              refine D.take 7 (y_extract rfl rfl rfl) rfl rfl rfl rfl (by kernel_rfl) (by kernel_rfl) (by kernel_rfl) (PQ.next (PQ.next (PQ.block (PQ.next (PQ.next (PQ.block (PQ.next PQ.body))))))) ?_
              refine D.take 8 (y_extract rfl rfl rfl) rfl rfl rfl rfl (by kernel_rfl) (by kernel_rfl) (by kernel_rfl) (PQ.next (PQ.next (PQ.block (PQ.next (PQ.next (PQ.block (PQ.next PQ.body))))))) ?_
              refine D.ofJ 9 (by kernel_rfl) rfl fun KhK41 hK41 => ?_
              refine J.alloc rfl rfl rfl rfl Tb.zz87 rfl fun g18 => ?_
              refine J.nil ?_
              refine hK41 _ _ _ (fun w hs => hs.mask [false, false, true]) ?_
              refine D.ofJ 10 (by kernel_rfl) rfl fun KhK42 hK42 => ?_
              refine J.storeW 0 rfl rfl rfl rfl rfl rfl rfl Tb.sz87 (by first | (simp [length_wl]; done) | rfl) (by first | (simp [length_wl]; done) | rfl) (by first | exact u32s1 _ | exact one_vc _ | (simp; done) | (intro u hu; simp only [List.mem_cons, List.not_mem_nil, or_false] at hu; rcases hu with rfl | rfl <;> rfl)) ?_
              refine J.nil ?_
              refine hK42 _ _ _ (fun w hs => hs.mask [false, false, true]) ?_
              refine D.take 11 (y_assign rfl rfl) rfl rfl rfl rfl (by kernel_rfl) (by kernel_rfl) (by kernel_rfl) (PQ.next (PQ.next (PQ.block (PQ.next (PQ.next (PQ.block (PQ.next PQ.body))))))) ?_
              refine D.done (by kernel_rfl) ?_
              refine againK38 (g18, A3, k3) _ hk3 (okE_cons rfl (okE_cons rfl okE_nil)) (okE_cons rfl (okE_cons rfl (okE_cons rfl okE_nil)))
            · refine DS.ofJ rfl fun KhK43 hK43 => ?_
              refine J.alloc rfl rfl rfl rfl Tb.zz87 rfl fun g18 => ?_
              refine J.nil ?_
              refine hK43 _ _ _ (fun w hs => hs.mask [false, true]) ?_
              refine D.ofJ 5 (by kernel_rfl) rfl fun KhK45 hK45 => ?_
              refine J.callR (Cin := []) rfl rfl rfl rfl Tb.cl64 rfl rfl (rgappend_fn s rs x A n k hn (by omega) (fun w h => hA w h.1) hs) ?_
              rintro ⟨A3, k3⟩ hk3
              refine J.nil ?_
              refine hK45 _ _ _ (fun w hs => hs.mask [false, false, true]) ?_
              refine D.take 6 (y_move rfl rfl) rfl rfl rfl rfl (by kernel_rfl) (by kernel_rfl) (by kernel_rfl) (PQ.next (PQ.next (PQ.block (PQ.next (PQ.next (PQ.block (PQ.next PQ.body))))))) ?_
              refine D.take 7 (y_extract rfl rfl rfl) rfl rfl rfl rfl (by kernel_rfl) (by kernel_rfl) (by kernel_rfl) (PQ.next (PQ.next (PQ.block (PQ.next (PQ.next (PQ.block (PQ.next PQ.body))))))) ?_
              refine D.take 8 (y_extract rfl rfl rfl) rfl rfl rfl rfl (by kernel_rfl) (by kernel_rfl) (by kernel_rfl) (PQ.next (PQ.next (PQ.block (PQ.next (PQ.next (PQ.block (PQ.next PQ.body))))))) ?_
              refine D.ofJ 10 (by kernel_rfl) rfl fun KhK46 hK46 => ?_
              refine J.storeW 1 rfl rfl rfl rfl rfl rfl rfl Tb.sz87 (by first | (simp [length_wl]; done) | rfl) (by first | (simp [length_wl]; done) | rfl) (by first | exact u32s1 _ | exact one_vc _ | (simp; done) | (intro u hu; simp only [List.mem_cons, List.not_mem_nil, or_false] at hu; rcases hu with rfl | rfl <;> rfl)) ?_
              refine J.nil ?_
              refine hK46 _ _ _ (fun w hs => hs.mask [false, false, true]) ?_
              refine D.take 11 (y_assign rfl rfl) rfl rfl rfl rfl (by kernel_rfl) (by kernel_rfl) (by kernel_rfl) (PQ.next (PQ.next (PQ.block (PQ.next (PQ.next (PQ.block (PQ.next PQ.body))))))) ?_
              refine D.done (by kernel_rfl) ?_
              refine JQ.front 1 rfl ?_
              refine againK38 (g18, A3, k3) _ hk3 (okE_cons rfl (okE_cons rfl okE_nil)) (okE_cons rfl (okE_cons rfl (okE_cons rfl okE_nil)))
          · obtain ⟨g18, A3, k3⟩ := sK38
            dsimp only at hK38 ⊢
            obtain hk3 := hK38
            refine JQ.next hK37 ?_
            refine JC.seq fun K47 hK47 => ?_
            refine JC.cutE (σ := Nat × Option Addr × Nat) (M := fun q => [(20, .pointer (some ⟨q.1, 0, none⟩)), (21, .int .i64 (xE s rs [x]))]) (kp := [(1, _), (5, _), (17, _), (18, _), (19, _)]) (hkp := (okE_cons rfl (okE_cons rfl (okE_cons rfl (okE_cons rfl (okE_cons rfl okE_nil)))))) (Dc := fun q => [.box q.1 87 [.int .i64 (xS s rs [x]), .slice q.2.1 (xL s rs [x]).length q.2.2], .row (.slice q.2.1 (xL s rs [x]).length q.2.2) 30 32 (xL s rs [x]).length (hcs (xL s rs [x])), .box g18 87 [.int .i64 (xS s rs [x]), .slice A3 (xL s rs [x]).length k3], .row (.slice A3 (xL s rs [x]).length k3) 30 32 (xL s rs [x]).length (hcs (xL s rs [x])), .box g5 87 [.int .i64 s, .slice A n k]]) (H := fun _ => F) (Ψ := fun q => (xL s rs [x]).length ≤ q.2.2) (fun K48 againK48 => ?_) (fun sK48 hK48 => ?_)
            refine JC.drawM [false, false, true] (by kernel_rfl) ?_
            refine D.take 0 (y_lbW 0 rfl Tb.ag87 Tb.sz87 (by first | (simp [length_wl]; done) | rfl) rfl rfl) rfl rfl rfl rfl (by kernel_rfl) (by kernel_rfl) (by kernel_rfl) (PQ.next (PQ.next (PQ.block (PQ.next (PQ.next (PQ.block (PQ.next PQ.body))))))) ?_
            refine D.take 1 (y_move rfl rfl) rfl rfl rfl rfl (by kernel_rfl) (by kernel_rfl) (by kernel_rfl) (PQ.next (PQ.next (PQ.block (PQ.next (PQ.next (PQ.block (PQ.next PQ.body))))))) ?_
            refine D.take 2 (y_move rfl rfl) rfl rfl rfl rfl (by kernel_rfl) (by kernel_rfl) (by kernel_rfl) (PQ.next (PQ.next (PQ.block (PQ.next (PQ.next (PQ.block (PQ.next PQ.body))))))) ?_
            refine D.take 3 (y_move rfl rfl) rfl rfl rfl rfl (by kernel_rfl) (by kernel_rfl) (by kernel_rfl) (PQ.next (PQ.next (PQ.block (PQ.next (PQ.next (PQ.block (PQ.next PQ.body))))))) ?_
            refine D.take 4 (y_add64 rfl rfl rfl (by omega)) rfl rfl rfl rfl (by kernel_rfl) (by kernel_rfl) (by kernel_rfl) (PQ.next (PQ.next (PQ.block (PQ.next (PQ.next (PQ.block (PQ.next PQ.body))))))) ?_
            · refine D.take 5 ((y_cutN i (i + 1) rfl Tryd.underlying22 Tb.sz30 rfl rfl rfl rfl rfl (by omega)).to (by rw [show i + 1 - i = 1 by omega])) rfl rfl rfl rfl (by kernel_rfl) (by kernel_rfl) (by kernel_rfl) (PQ.next (PQ.next (PQ.block (PQ.next (PQ.next (PQ.block (PQ.next PQ.body))))))) ?_
              refine D.two 6 10 (by kernel_rfl) ?_ ?_
              · refine DS.ofJ rfl fun KhK50 hK50 => ?_
                refine J.callR (Cin := []) rfl rfl rfl rfl Tb.cl65 rfl rfl (rext_fn s rs [x] A (cutA B km i 32) n k 1 (km - i) hn rfl (by omega) (by omega) (fun w h => hA w h.1) (fun w h => by rw [← hseg]; exact ((hB w h.1).htake (i + 1)).hdrop i km (by rw [List.length_take]; omega) (by rw [List.length_take]; omega))) ?_
                rintro ⟨A4, k4⟩ hk4
                refine J.nil ?_
                refine hK50 _ _ _ (fun w hs => hs.mask [false, false, false, true]) ?_
                refine D.take 7 (y_move rfl rfl) rfl rfl rfl rfl (by kernel_rfl) (by kernel_rfl) (by kernel_rfl) (PQ.next (PQ.next (PQ.block (PQ.next (PQ.next (PQ.block (PQ.next PQ.body))))))) ?_
                refine D.take 8 (y_extract rfl rfl rfl) rfl rfl rfl rfl (by kernel_rfl) (by kernel_rfl) (by kernel_rfl) (PQ.next (PQ.next (PQ.block (PQ.next (PQ.next (PQ.block (PQ.next PQ.body))))))) ?_
                refine D.take 9 (y_extract rfl rfl rfl) rfl rfl rfl rfl (by kernel_rfl) (by kernel_rfl) (by kernel_rfl) (PQ.next (PQ.next (PQ.block (PQ.next (PQ.next (PQ.block (PQ.next PQ.body))))))) ?_
                refine D.ofJ 10 (by kernel_rfl) rfl fun KhK51 hK51 => ?_
                refine J.alloc rfl rfl rfl rfl Tb.zz87 rfl fun g20 => ?_
                refine J.nil ?_
                refine hK51 _ _ _ (fun w hs => hs.mask [false, false, false, false, true]) ?_
                refine D.ofJ 11 (by kernel_rfl) rfl fun KhK52 hK52 => ?_
                refine J.storeW 0 rfl rfl rfl rfl rfl rfl rfl Tb.sz87 (by first | (simp [length_wl]; done) | rfl) (by first | (simp [length_wl]; done) | rfl) (by first | exact u32s1 _ | exact one_vc _ | (simp; done) | (intro u hu; simp only [List.mem_cons, List.not_mem_nil, or_false] at hu; rcases hu with rfl | rfl <;> rfl)) ?_
                refine J.nil ?_
                refine hK52 _ _ _ (fun w hs => hs.mask [false, false, false, false, true]) ?_
                refine D.take 12 (y_assign rfl rfl) rfl rfl rfl rfl (by kernel_rfl) (by kernel_rfl) (by kernel_rfl) (PQ.next (PQ.next (PQ.block (PQ.next (PQ.next (PQ.block (PQ.next PQ.body))))))) ?_
                refine D.done (by kernel_rfl) ?_
                refine againK48 (g20, A4, k4) _ hk4 (okE_cons rfl (okE_cons rfl okE_nil)) (okE_cons rfl (okE_cons rfl (okE_cons rfl (okE_cons rfl (okE_cons rfl okE_nil)))))
              · refine DS.ofJ rfl fun KhK53 hK53 => ?_
                refine J.alloc rfl rfl rfl rfl Tb.zz87 rfl fun g20 => ?_
                refine J.nil ?_
                refine hK53 _ _ _ (fun w hs => hs.mask [false, false, false, true]) ?_
                refine D.ofJ 6 (by kernel_rfl) rfl fun KhK55 hK55 => ?_
                refine J.callR (Cin := []) rfl rfl rfl rfl Tb.cl65 rfl rfl (rext_fn s rs [x] A (cutA B km i 32) n k 1 (km - i) hn rfl (by omega) (by omega) (fun w h => hA w h.1) (fun w h => by rw [← hseg]; exact ((hB w h.1).htake (i + 1)).hdrop i km (by rw [List.length_take]; omega) (by rw [List.length_take]; omega))) ?_
                rintro ⟨A4, k4⟩ hk4
                refine J.nil ?_
                refine hK55 _ _ _ (fun w hs => hs.mask [false, false, false, false, true]) ?_
                refine D.take 7 (y_move rfl rfl) rfl rfl rfl rfl (by kernel_rfl) (by kernel_rfl) (by kernel_rfl) (PQ.next (PQ.next (PQ.block (PQ.next (PQ.next (PQ.block (PQ.next PQ.body))))))) ?_
                refine D.take 8 (y_extract rfl rfl rfl) rfl rfl rfl rfl (by kernel_rfl) (by kernel_rfl) (by kernel_rfl) (PQ.next (PQ.next (PQ.block (PQ.next (PQ.next (PQ.block (PQ.next PQ.body))))))) ?_
                refine D.take 9 (y_extract rfl rfl rfl) rfl rfl rfl rfl (by kernel_rfl) (by kernel_rfl) (by kernel_rfl) (PQ.next (PQ.next (PQ.block (PQ.next (PQ.next (PQ.block (PQ.next PQ.body))))))) ?_
                refine D.ofJ 11 (by kernel_rfl) rfl fun KhK56 hK56 => ?_
                refine J.storeW 1 rfl rfl rfl rfl rfl rfl rfl Tb.sz87 (by first | (simp [length_wl]; done) | rfl) (by first | (simp [length_wl]; done) | rfl) (by first | exact u32s1 _ | exact one_vc _ | (simp; done) | (intro u hu; simp only [List.mem_cons, List.not_mem_nil, or_false] at hu; rcases hu with rfl | rfl <;> rfl)) ?_
                refine J.nil ?_
                refine hK56 _ _ _ (fun w hs => hs.mask [false, false, false, false, true]) ?_
                refine D.take 12 (y_assign rfl rfl) rfl rfl rfl rfl (by kernel_rfl) (by kernel_rfl) (by kernel_rfl) (PQ.next (PQ.next (PQ.block (PQ.next (PQ.next (PQ.block (PQ.next PQ.body))))))) ?_
                refine D.done (by kernel_rfl) ?_
                refine JQ.front 1 rfl ?_
                refine againK48 (g20, A4, k4) _ hk4 (okE_cons rfl (okE_cons rfl okE_nil)) (okE_cons rfl (okE_cons rfl (okE_cons rfl (okE_cons rfl (okE_cons rfl okE_nil)))))
            · obtain ⟨g20, A4, k4⟩ := sK48
              dsimp only at hK48 ⊢
              obtain hk4 := hK48
              refine JQ.next hK47 ?_
              refine JC.seq fun K57 hK57 => ?_
              refine JC.region ?_
              refine J.yl (y_lbW 2 rfl Tb.ag87 Tb.sz87 (by first | (simp [length_wl]; done) | rfl) rfl rfl) rfl rfl rfl ?_
              refine J.yl (y_lbW 0 rfl Tb.ag87 Tb.sz87 (by first | (simp [length_wl]; done) | rfl) rfl rfl) rfl rfl rfl ?_
              refine J.callv rfl rfl rfl rfl Tb.cl62 rfl ((rrsame_fn (xS s rs [x]) (xS s rs [x]) (xL s rs [x]) (xL s rs [x]) A3 A4 _ _ k3 k4 rfl rfl (by omega) (fun w h => ckrow 3 rfl h) (fun w h => ckrow 1 rfl h)).to (by rw [sam_self])) ?_
              refine J.yl ((y_not rfl rfl).to rfl) rfl rfl rfl ?_
              refine J.yl (y_move rfl rfl) rfl rfl rfl ?_
              refine J.gyes (y_move rfl rfl) rfl rfl rfl rfl rfl rfl ?_
              refine J.gyes (y_move rfl rfl) rfl rfl rfl rfl rfl rfl ?_
              refine J.gyes (y_ne rfl rfl rfl) rfl rfl rfl rfl rfl rfl ?_
              refine J.yl (y_pick rfl rfl (fun h => by cases h) (fun _ => rfl)) rfl rfl rfl ?_
              refine J.nil ?_
              refine JQ.next hK57 ?_
              refine JC.condn rfl (fun h7 => ?_) (fun h7 => ?_)
              · exact absurd rfl h7
              · refine JC.skip ?_
                refine JQ.block_normal (JQ.next hK36 ?_)
                refine JC.region ?_
                refine J.yl (y_move rfl rfl) rfl rfl rfl ?_
                refine J.yl (y_add64 rfl rfl rfl (by omega)) rfl rfl rfl ?_
                refine J.yl (y_assign rfl rfl) rfl rfl rfl ?_
                refine J.nil ?_
                refine JQ.drop ?_
                refine JQ.drop ?_
                refine JQ.drop ?_
                refine JQ.drop ?_
                refine againK33 (i + 1) _ (by omega) (by omega) (okE_cons (slotI (by omega)) okE_nil) (okE_cons rfl (okE_cons rfl okE_nil))
        · refine JC.exit ?_
          refine JQ.then_exit (JQ.then_exit (JQ.block_hit (JQ.next hK31 ?_)))
          refine JC.seq fun K58 hK58 => ?_
          refine JC.region ?_
          refine J.callv rfl rfl rfl rfl Tb.cl57 rfl (ranged_fn) ?_
          refine J.yl (y_assign rfl rfl) rfl rfl rfl ?_
          refine J.nil ?_
          refine JQ.next hK58 ?_
          refine JC.ret ?_
          exact ret1 rfl (r_tmp rfl) fun w hs => Post.pure hs
end Go.Proofs.YtjkfeonbioccmaaDoor
