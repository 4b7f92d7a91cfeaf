/- Speculum proofs: RangesTell, walked: what is put behind a range, its root, and its parts that are merged, are the document's, or refused. -/
import Derived.Test.YtjkfeonbioccmaaDoorRq
import Derived.Test.YtjkfeonbioccmaaDoorRm
namespace Go.Proofs.YtjkfeonbioccmaaDoor
open Go Go.Sx Go.RowKit
set_option linter.unusedVariables false
set_option linter.unusedSimpArgs false
set_option maxRecDepth 100000
set_option maxHeartbeats 4000000
variable {Gl F : World → Prop}
theorem carry_le : ∀ (r : List H) (n : Nat) (h : H), (carry n r h).length ≤ r.length + 1 := by
  intro r
  induction r with
  | nil => intro n h; exact Nat.le_refl _
  | cons x r ih =>
    intro n h
    unfold carry
    split
    · have := ih (n / 2) (node x h)
      rw [List.length_cons]; omega
    · exact Nat.le_refl _
theorem putAll_le : ∀ (ks : List Nat) (p : List H) (s : Nat) (rs : List H), (putAll ks p (s, rs)).2.length ≤ rs.length + p.length := by
  intro ks
  induction ks with
  | nil => intro p s rs; simp [putAll]
  | cons k ks ih =>
    intro p s rs
    cases p with
    | nil => simp [putAll]
    | cons h p =>
      have h1 := ih p (s + k) (carry (s / k) rs h)
      have h2 := carry_le rs (s / k) h
      rw [putAll, List.length_cons]
      omega
theorem mL_le (s : Int) (rs : List H) (z : Int) (p : List H) : (mL s rs z p).length ≤ rs.length + p.length := by
  unfold mL
  split
  · rw [List.length_reverse]; exact putAll_le _ _ _ _
  · exact Nat.zero_le _
theorem law_RangesTell (s m : Int) (rs l : List H) (A B : Option Addr) (n k j kj : Nat) (hs : in64 s) (hm : in64 m) (hn : rs.length = n) (hj : l.length = j) (hkj : j ≤ kj) (hA : ∀ w, F w → Sl w A (hcs rs.reverse)) (hB : ∀ w, F w → Sl w B (hcs l)) :
    PureFn Tryd.prog Gs 13 [.agg #[.int .i64 s, .slice A n k], .slice B j kj, .int .i64 m] F (.bool true) := by
  have hnr : rs.reverse.length = n := by rw [List.length_reverse]; exact hn
  have hs1 := hs.1
  have hs2 := hs.2
  refine FnSpec.intro Tryd.func13 rfl Tryd.ntmps13 rfl fun X M w => ?_
  refine JC.seq fun K1 hK1 => ?_
  refine JC.region ?_
  refine J.box rfl rfl rfl rfl rfl rfl fun g3 => ?_
  refine J.yl (y_assign rfl rfl) rfl rfl rfl ?_
  refine J.nil ?_
  refine JQ.next hK1 ?_
  refine JC.seq fun K2 hK2 => ?_
  refine JC.seq fun K3 hK3 => ?_
  refine JC.region ?_
  refine J.yl (y_lbW 0 rfl Tb.ag87 Tb.sz87 (by first | (simp [length_wl]; done) | rfl) rfl rfl) rfl rfl rfl ?_
  refine J.callv rfl rfl rfl rfl Tb.cl56 rfl (rgreat_fn s A n k) ?_
  refine J.ylp (y_move rfl rfl) rfl rfl rfl (fun h1 => ?_) (fun h1 => ?_)
  · refine J.gno (b := true) rfl rfl rfl rfl rfl rfl ?_
    refine J.gno (b := true) rfl rfl rfl rfl rfl rfl ?_
    refine J.gno (b := true) rfl rfl rfl rfl rfl rfl ?_
    refine J.yl (y_pick rfl rfl (fun _ => rfl) (fun h => by cases h)) rfl rfl rfl ?_
    refine J.nil ?_
    refine JQ.next hK3 ?_
    refine JC.yes rfl ?_
    refine JC.seq fun K4 hK4 => ?_
    refine JC.region ?_
    refine J.callv rfl rfl rfl rfl Tb.cl57 rfl (ranged_fn) ?_
    refine J.yl (y_assign rfl rfl) rfl rfl rfl ?_
    refine J.nil ?_
    refine JQ.next hK4 ?_
    refine JC.ret ?_
    refine JQ.then_ret ?_
    exact ret1 rfl (r_tmp rfl) fun w hs => Post.pure hs
  · refine J.gyes (y_move rfl rfl) rfl rfl rfl rfl rfl rfl ?_
    refine J.gyes (y_len rfl Tryd.underlying22 rfl) rfl rfl rfl rfl rfl rfl ?_
    refine J.gyes (y_gt rfl rfl rfl) rfl rfl rfl rfl rfl rfl ?_
    refine J.yl (y_pick rfl rfl (fun h => by cases h) (fun _ => rfl)) rfl rfl rfl ?_
    refine J.nil ?_
    refine JQ.next hK3 ?_
    refine JC.condp rfl (fun h2 => ?_) (fun h2 => ?_)
    · refine JC.seq fun K5 hK5 => ?_
      refine JC.region ?_
      refine J.callv rfl rfl rfl rfl Tb.cl57 rfl (ranged_fn) ?_
      refine J.yl (y_assign rfl rfl) rfl rfl rfl ?_
      refine J.nil ?_
      refine JQ.next hK5 ?_
      refine JC.ret ?_
      refine JQ.then_ret ?_
      exact ret1 rfl (r_tmp rfl) fun w hs => Post.pure hs
    · have hx1 := xL_le s rs l
      have hm1 := mL_le s rs
      refine JC.skip ?_
      refine JQ.next hK2 ?_
      refine JC.seq fun K6 hK6 => ?_
      refine JC.cutE (σ := Nat × Option Addr × Nat) (M := fun q => [(7, .pointer (some ⟨q.1, 0, none⟩))]) (kp := [(1, _), (2, _), (3, _), (6, _)]) (hkp := (okE_cons rfl (okE_cons rfl (okE_cons rfl (okE_cons rfl okE_nil))))) (Dc := fun q => [.box q.1 87 [.int .i64 s, .slice q.2.1 n q.2.2], .row (.slice q.2.1 n q.2.2) 30 32 n (hcs rs.reverse), .box g3 87 [.int .i64 s, .slice A n k]]) (H := fun _ => F) (Ψ := fun q => n ≤ q.2.2) (fun K7 againK7 => ?_) (fun sK7 hK7 => ?_)
      refine JC.drawM [true] (by kernel_rfl) ?_
      refine D.take 0 (y_fb rfl Tb.fo87_0 rfl) rfl rfl rfl rfl (by kernel_rfl) (by kernel_rfl) (by kernel_rfl) (PQ.next (PQ.next PQ.body)) ?_
      refine D.take 1 (y_lb 0 rfl Tb.ag3 rfl rfl rfl) rfl rfl rfl rfl (by kernel_rfl) (by kernel_rfl) (by kernel_rfl) (PQ.next (PQ.next PQ.body)) ?_
      refine D.take 2 (y_fb rfl Tb.fo87_1 rfl) rfl rfl rfl rfl (by kernel_rfl) (by kernel_rfl) (by kernel_rfl) (PQ.next (PQ.next PQ.body)) ?_
      refine D.take 3 (y_lb 0 rfl Tb.ag22 rfl rfl rfl) rfl rfl rfl rfl (by kernel_rfl) (by kernel_rfl) (by kernel_rfl) (PQ.next (PQ.next PQ.body)) ?_
      · refine D.two 4 6 (by kernel_rfl) ?_ ?_
        · refine DS.ofJ rfl fun KhK9 hK9 => ?_
          refine J.appNil (hcs rs.reverse) rfl rfl rfl rfl rfl rfl Tryd.underlying22 Tb.zz30 Tb.sz30 Tb.by30 rfl (by decide) (by rw [length_hcs, hnr]) (fun w hs => hA w hs.fact) (hcs1 _) (by omega) (by decide) fun A1 k1 hk1 => ?_
          refine J.nil ?_
          refine hK9 _ _ _ (fun w hs => hs.mask [false, true]) ?_
          refine D.take 5 (y_buildS (pl := [(0, 1), (1, 1)]) (zs := [.int .i64 0, .slice none 0 0]) rfl (by kernel_rfl) (by kernel_rfl) rfl (fill_Rg _ _ rfl rfl)) rfl rfl rfl rfl (by kernel_rfl) (by kernel_rfl) (by kernel_rfl) (PQ.next (PQ.next PQ.body)) ?_
          refine D.ofJ 6 (by kernel_rfl) rfl fun KhK10 hK10 => ?_
          refine J.alloc rfl rfl rfl rfl Tb.zz87 rfl fun g7 => ?_
          refine J.nil ?_
          refine hK10 _ _ _ (fun w hs => hs.mask [false, false, true]) ?_
          refine D.ofJ 7 (by kernel_rfl) rfl fun KhK11 hK11 => ?_
          refine J.storeW 0 rfl rfl rfl rfl rfl rfl rfl Tb.sz87 (by first | (simp [length_wl]; done) | rfl) (by first | (simp [length_wl]; done) | rfl) (by first | exact u32s1 _ | exact one_vc _ | (simp; done) | (intro u hu; simp only [List.mem_cons, List.not_mem_nil, or_false] at hu; rcases hu with rfl | rfl <;> rfl)) ?_
          refine J.nil ?_
          refine hK11 _ _ _ (fun w hs => hs.mask [false, false, true]) ?_
          refine D.done (by kernel_rfl) ?_
          refine againK7 (g7, A1, k1) _ hk1 (okE_cons rfl okE_nil) (okE_cons rfl (okE_cons rfl (okE_cons rfl (okE_cons rfl okE_nil))))
        · refine DS.ofJ rfl fun KhK12 hK12 => ?_
          refine J.alloc rfl rfl rfl rfl Tb.zz87 rfl fun g7 => ?_
          refine J.nil ?_
          refine hK12 _ _ _ (fun w hs => hs.mask [false, true]) ?_
          refine D.ofJ 4 (by kernel_rfl) rfl fun KhK14 hK14 => ?_
          refine J.appNil (hcs rs.reverse) rfl rfl rfl rfl rfl rfl Tryd.underlying22 Tb.zz30 Tb.sz30 Tb.by30 rfl (by decide) (by rw [length_hcs, hnr]) (fun w hs => hA w hs.fact) (hcs1 _) (by omega) (by decide) fun A1 k1 hk1 => ?_
          refine J.nil ?_
          refine hK14 _ _ _ (fun w hs => hs.mask [false, false, true]) ?_
          refine D.take 5 (y_buildS (pl := [(0, 1), (1, 1)]) (zs := [.int .i64 0, .slice none 0 0]) rfl (by kernel_rfl) (by kernel_rfl) rfl (fill_Rg _ _ rfl rfl)) rfl rfl rfl rfl (by kernel_rfl) (by kernel_rfl) (by kernel_rfl) (PQ.next (PQ.next PQ.body)) ?_
          refine D.ofJ 7 (by kernel_rfl) rfl fun KhK15 hK15 => ?_
          refine J.storeW 1 rfl rfl rfl rfl rfl rfl rfl Tb.sz87 (by first | (simp [length_wl]; done) | rfl) (by first | (simp [length_wl]; done) | rfl) (by first | exact u32s1 _ | exact one_vc _ | (simp; done) | (intro u hu; simp only [List.mem_cons, List.not_mem_nil, or_false] at hu; rcases hu with rfl | rfl <;> rfl)) ?_
          refine J.nil ?_
          refine hK15 _ _ _ (fun w hs => hs.mask [false, false, true]) ?_
          refine D.done (by kernel_rfl) ?_
          refine JQ.front 1 rfl ?_
          refine againK7 (g7, A1, k1) _ hk1 (okE_cons rfl okE_nil) (okE_cons rfl (okE_cons rfl (okE_cons rfl (okE_cons rfl okE_nil))))
      · obtain ⟨g7, A1, k1⟩ := sK7
        dsimp only at hK7 ⊢
        obtain hk1 := hK7
        refine JQ.next hK6 ?_
        refine JC.seq fun K16 hK16 => ?_
        refine JC.region ?_
        refine J.yl (y_lbW 0 rfl Tb.ag87 Tb.sz87 (by first | (simp [length_wl]; done) | rfl) rfl rfl) rfl rfl rfl ?_
        refine J.yl (y_move rfl rfl) rfl rfl rfl ?_
        have hk1 : n ≤ k1 := by assumption
        refine J.callR (Cin := []) rfl rfl rfl rfl Tb.cl66 rfl rfl (extend_fn s rs l A1 B n k1 j kj hn hj (by omega) (fun w h => ckrow 1 rfl h) (fun w h => hB w h.1) hs) ?_
        rintro ⟨A2, k2⟩ hk2
        refine J.yl (y_move rfl rfl) rfl rfl rfl ?_
        refine J.yl (y_extract rfl rfl rfl) rfl rfl rfl ?_
        refine J.yl (y_extract rfl rfl rfl) rfl rfl rfl ?_
        refine J.alloc rfl rfl rfl rfl Tb.zz87 rfl fun g8 => ?_
        refine J.storeW 0 rfl rfl rfl rfl rfl rfl rfl Tb.sz87 (by first | (simp [length_wl]; done) | rfl) (by first | (simp [length_wl]; done) | rfl) (by first | exact u32s1 _ | exact one_vc _ | (simp; done) | (intro u hu; simp only [List.mem_cons, List.not_mem_nil, or_false] at hu; rcases hu with rfl | rfl <;> rfl)) ?_
        refine J.yl (y_assign rfl rfl) rfl rfl rfl ?_
        refine J.nil ?_
        refine JQ.next hK16 ?_
        refine JC.seq fun K17 hK17 => ?_
        refine JC.region ?_
        refine J.yl (y_lbW 4 rfl Tb.ag87 Tb.sz87 (by first | (simp [length_wl]; done) | rfl) rfl rfl) rfl rfl rfl ?_
        refine J.yl (y_move rfl rfl) rfl rfl rfl ?_
        refine J.callR (Cin := []) rfl rfl rfl rfl Tb.cl65 rfl rfl (rext_fn s rs l A B n k j kj hn hj (by omega) (by omega) (fun w h => hA w h.1) (fun w h => hB w h.1)) ?_
        rintro ⟨A3, k3⟩ hk3
        refine J.yl (y_move rfl rfl) rfl rfl rfl ?_
        refine J.yl (y_extract rfl rfl rfl) rfl rfl rfl ?_
        refine J.yl (y_extract rfl rfl rfl) rfl rfl rfl ?_
        refine J.alloc rfl rfl rfl rfl Tb.zz87 rfl fun g10 => ?_
        refine J.storeW 0 rfl rfl rfl rfl rfl rfl rfl Tb.sz87 (by first | (simp [length_wl]; done) | rfl) (by first | (simp [length_wl]; done) | rfl) (by first | exact u32s1 _ | exact one_vc _ | (simp; done) | (intro u hu; simp only [List.mem_cons, List.not_mem_nil, or_false] at hu; rcases hu with rfl | rfl <;> rfl)) ?_
        refine J.yl (y_assign rfl rfl) rfl rfl rfl ?_
        refine J.nil ?_
        refine JQ.next hK17 ?_
        refine JC.seq fun K18 hK18 => ?_
        refine JC.region ?_
        refine J.yl (y_lbW 4 rfl Tb.ag87 Tb.sz87 (by first | (simp [length_wl]; done) | rfl) rfl rfl) rfl rfl rfl ?_
        refine J.callv rfl rfl rfl rfl Tb.cl68 rfl (root_fn s rs.reverse A1 n k1 hnr hk1 (by omega) (fun w h => ckrow 5 rfl h)) ?_
        refine J.yl (y_move rfl rfl) rfl rfl rfl ?_
        refine J.yl (y_extract rfl rfl rfl) rfl rfl rfl ?_
        refine J.yl (y_extract rfl rfl rfl) rfl rfl rfl ?_
        refine J.alloc rfl rfl rfl rfl Tb.zz30 rfl fun g12 => ?_
        refine J.storeW 0 rfl rfl rfl rfl rfl rfl rfl Tb.sz30 (hcl _) (hcl _) (hc1 _) ?_
        refine J.yl (y_assign rfl rfl) rfl rfl rfl ?_
        refine J.nil ?_
        refine JQ.next hK18 ?_
        refine JC.seq fun K19 hK19 => ?_
        refine JC.region ?_
        refine J.yl (y_lbW 7 rfl Tb.ag87 Tb.sz87 (by first | (simp [length_wl]; done) | rfl) rfl rfl) rfl rfl rfl ?_
        refine J.callv rfl rfl rfl rfl Tb.cl69 rfl (rRoot_fn s rs.reverse A n k hnr (by omega) (fun w h => hA w h.1)) ?_
        refine J.yl (y_move rfl rfl) rfl rfl rfl ?_
        refine J.yl (y_extract rfl rfl rfl) rfl rfl rfl ?_
        refine J.yl (y_extract rfl rfl rfl) rfl rfl rfl ?_
        refine J.alloc rfl rfl rfl rfl Tb.zz30 rfl fun g14 => ?_
        refine J.storeW 0 rfl rfl rfl rfl rfl rfl rfl Tb.sz30 (hcl _) (hcl _) (hc1 _) ?_
        refine J.yl (y_assign rfl rfl) rfl rfl rfl ?_
        refine J.nil ?_
        refine JQ.next hK19 ?_
        refine JC.seq fun K20 hK20 => ?_
        refine JC.seq fun K21 hK21 => ?_
        refine JC.drawM [true, true, true, true, true, true, true, true, true] (by kernel_rfl) ?_
        refine D.take 0 (y_lbW 4 rfl Tb.ag87 Tb.sz87 (by first | (simp [length_wl]; done) | rfl) rfl rfl) rfl rfl rfl rfl (by kernel_rfl) (by kernel_rfl) (by kernel_rfl) (PQ.next (PQ.next PQ.body)) ?_
        refine D.take 1 (y_lbW 2 rfl Tb.ag87 Tb.sz87 (by first | (simp [length_wl]; done) | rfl) rfl rfl) rfl rfl rfl rfl (by kernel_rfl) (by kernel_rfl) (by kernel_rfl) (PQ.next (PQ.next PQ.body)) ?_
        refine D.ofJ 2 (by kernel_rfl) rfl fun KhK23 hK23 => ?_
        refine J.callv rfl rfl rfl rfl Tb.cl62 rfl ((rrsame_fn (xS s rs l) (xS s rs l) (xL s rs l) (xL s rs l) A2 A3 _ _ k2 k3 rfl rfl (by omega) (fun w h => ckrow 5 rfl h) (fun w h => ckrow 3 rfl h)).to (by rw [sam_self])) ?_
        refine J.nil ?_
        refine hK23 _ _ _ (fun w hs => hs.mask [true, true, true, true, true, true, true, true, true]) ?_
        refine D.take 3 ((y_not rfl rfl).to rfl) rfl rfl rfl rfl (by kernel_rfl) (by kernel_rfl) (by kernel_rfl) (PQ.next (PQ.next PQ.body)) ?_
        refine D.take 4 (y_move rfl rfl) rfl rfl rfl rfl (by kernel_rfl) (by kernel_rfl) (by kernel_rfl) (PQ.next (PQ.next PQ.body)) ?_
        refine D.takeG 5 (y_move rfl rfl) rfl rfl rfl rfl rfl rfl rfl (by kernel_rfl) (by kernel_rfl) (by kernel_rfl) (PQ.next (PQ.next PQ.body)) ?_
        refine D.takeG 6 (y_move rfl rfl) rfl rfl rfl rfl rfl rfl rfl (by kernel_rfl) (by kernel_rfl) (by kernel_rfl) (PQ.next (PQ.next PQ.body)) ?_
        refine D.takeG 7 (Yl.to (v' := .bool false) (y_ne rfl rfl rfl) (by rw [decide_eq_true rfl]; first | done | rfl)) rfl rfl rfl rfl rfl rfl rfl (by kernel_rfl) (by kernel_rfl) (by kernel_rfl) (PQ.next (PQ.next PQ.body)) ?_
        refine D.take 8 (y_pick rfl rfl (fun h => by cases h) (fun _ => rfl)) rfl rfl rfl rfl (by kernel_rfl) (by kernel_rfl) (by kernel_rfl) (PQ.next (PQ.next PQ.body)) ?_
        refine D.take 9 (y_move rfl rfl) rfl rfl rfl rfl (by kernel_rfl) (by kernel_rfl) (by kernel_rfl) (PQ.next (PQ.next PQ.body)) ?_
        refine D.takeG 10 (y_lbW 1 rfl Tb.ag30 Tb.sz30 (hcl _) rfl rfl) rfl rfl rfl rfl rfl rfl rfl (by kernel_rfl) (by kernel_rfl) (by kernel_rfl) (PQ.next (PQ.next PQ.body)) ?_
        refine D.takeG 11 (y_lbW 0 rfl Tb.ag30 Tb.sz30 (hcl _) rfl rfl) rfl rfl rfl rfl rfl rfl rfl (by kernel_rfl) (by kernel_rfl) (by kernel_rfl) (PQ.next (PQ.next PQ.body)) ?_
        refine D.takeG 12 (Yl.to (v' := .bool false) (y_hne rfl Tryd.underlying30 Tryd.underlying5 Tb.ag5 Tb.sz5 Tb.eg30 rfl rfl) (by rw [decide_eq_true rfl]; first | done | rfl)) rfl rfl rfl rfl rfl rfl rfl (by kernel_rfl) (by kernel_rfl) (by kernel_rfl) (PQ.next (PQ.next PQ.body)) ?_
        refine D.take 13 (y_pick rfl rfl (fun h => by cases h) (fun _ => rfl)) rfl rfl rfl rfl (by kernel_rfl) (by kernel_rfl) (by kernel_rfl) (PQ.next (PQ.next PQ.body)) ?_
        refine D.take 14 (y_move rfl rfl) rfl rfl rfl rfl (by kernel_rfl) (by kernel_rfl) (by kernel_rfl) (PQ.next (PQ.next PQ.body)) ?_
        refine D.takeG 15 (y_move rfl rfl) rfl rfl rfl rfl rfl rfl rfl (by kernel_rfl) (by kernel_rfl) (by kernel_rfl) (PQ.next (PQ.next PQ.body)) ?_
        refine D.takeG 16 (y_move rfl rfl) rfl rfl rfl rfl rfl rfl rfl (by kernel_rfl) (by kernel_rfl) (by kernel_rfl) (PQ.next (PQ.next PQ.body)) ?_
        refine D.takeG 17 (Yl.to (v' := .bool false) (y_ne rfl rfl rfl) (by rw [decide_eq_true rfl]; first | done | rfl)) rfl rfl rfl rfl rfl rfl rfl (by kernel_rfl) (by kernel_rfl) (by kernel_rfl) (PQ.next (PQ.next PQ.body)) ?_
        refine D.take 18 (y_pick rfl rfl (fun h => by cases h) (fun _ => rfl)) rfl rfl rfl rfl (by kernel_rfl) (by kernel_rfl) (by kernel_rfl) (PQ.next (PQ.next PQ.body)) ?_
        refine D.take 19 (y_move rfl rfl) rfl rfl rfl rfl (by kernel_rfl) (by kernel_rfl) (by kernel_rfl) (PQ.next (PQ.next PQ.body)) ?_
        refine D.takeG 20 (y_lbW 6 rfl Tb.ag87 Tb.sz87 (by first | (simp [length_wl]; done) | rfl) rfl rfl) rfl rfl rfl rfl rfl rfl rfl (by kernel_rfl) (by kernel_rfl) (by kernel_rfl) (PQ.next (PQ.next PQ.body)) ?_
        refine D.takeG 22 (y_lbW 8 rfl Tb.ag87 Tb.sz87 (by first | (simp [length_wl]; done) | rfl) rfl rfl) rfl rfl rfl rfl rfl rfl rfl (by kernel_rfl) (by kernel_rfl) (by kernel_rfl) (PQ.next (PQ.next PQ.body)) ?_
        refine D.ofJ 21 (by kernel_rfl) rfl fun KhK25 hK25 => ?_
        refine J.gon rfl rfl rfl rfl ?_
        refine J.callv rfl rfl rfl rfl Tb.cl67 rfl (valid_fn s rs.reverse A1 n k1 hnr) ?_
        refine J.nil ?_
        refine hK25 _ _ _ (fun w hs => hs.mask [true, true, true, true, true, true, true, true, true]) ?_
        refine D.ofJ 23 (by kernel_rfl) rfl fun KhK27 hK27 => ?_
        refine J.gon rfl rfl rfl rfl ?_
        refine J.callv rfl rfl rfl rfl Tb.cl70 rfl (rvalid_fn s rs.reverse A n k hnr) ?_
        refine J.nil ?_
        refine hK27 _ _ _ (fun w hs => hs.mask [true, true, true, true, true, true, true, true, true]) ?_
        refine D.takeG 24 (Yl.to (v' := .bool false) (y_bne rfl Tryd.underlying4 rfl rfl) (by simp)) rfl rfl rfl rfl rfl rfl rfl (by kernel_rfl) (by kernel_rfl) (by kernel_rfl) (PQ.next (PQ.next PQ.body)) ?_
        refine D.take 25 (y_pick rfl rfl (fun h => by cases h) (fun _ => rfl)) rfl rfl rfl rfl (by kernel_rfl) (by kernel_rfl) (by kernel_rfl) (PQ.next (PQ.next PQ.body)) ?_
        refine D.done (by kernel_rfl) ?_
        refine JQ.next hK21 ?_
        refine JC.no rfl ?_
        refine JC.skip ?_
        refine JQ.next hK20 ?_
        refine JC.seq fun K28 hK28 => ?_
        refine JC.seq fun K29 hK29 => ?_
        refine JC.region ?_
        refine J.yl (y_assign rfl rfl) rfl rfl rfl ?_
        refine J.nil ?_
        refine JQ.next hK29 ?_
        refine JC.block ?_
        refine JC.loopE (σ := Nat) (M := fun q => [(16, .int .i64 (q : Int))]) (kp := [(1, _), (2, _), (3, _), (6, _), (7, _)]) (hkp := (okE_cons rfl (okE_cons rfl (okE_cons rfl (okE_cons rfl (okE_cons rfl okE_nil)))))) (Dc := fun _ => [.box g7 87 [.int .i64 s, .slice A1 n k1], .row (.slice A1 n k1) 30 32 n (hcs rs.reverse), .box g3 87 [.int .i64 s, .slice A n k]]) (H := fun _ => F) (Ψ := fun q => q ≤ 3) (μ := fun q => 3 - q) 0 (by omega) (okE_cons rfl okE_nil) (fun w h => h.mask [false, false, false, false, false, false, true, true, true]) (fun i hi K30 againK30 => ?_)
        refine JC.seq fun K31 hK31 => ?_
        refine JC.seq fun K32 hK32 => ?_
        refine JC.region ?_
        refine J.yl (y_move rfl rfl) rfl rfl rfl ?_
        refine J.yl (y_lt rfl rfl rfl) rfl rfl rfl ?_
        refine J.nil ?_
        refine JQ.next hK32 ?_
        refine JC.condp rfl (fun h4 => ?_) (fun h4 => ?_)
        · refine JC.skip ?_
          refine JQ.next hK31 ?_
          refine JC.seq fun K33 hK33 => ?_
          refine JC.block ?_
          refine JC.seq fun K34 hK34 => ?_
          refine JC.region ?_
          refine J.yl (y_move rfl rfl) rfl rfl rfl ?_
          refine J.yl (y_assign rfl rfl) rfl rfl rfl ?_
          refine J.nil ?_
          refine JQ.next hK34 ?_
          refine JC.seq fun K35 hK35 => ?_
          refine JC.cutE (σ := Int × Unit) (M := fun p => [(17, .int .i64 p.1)]) (kp := [(1, _), (2, _), (3, _), (6, _), (7, _), (16, _)]) (hkp := (okE_cons rfl (okE_cons rfl (okE_cons rfl (okE_cons rfl (okE_cons rfl (okE_cons rfl okE_nil))))))) (Dc := fun _ => [.box g7 87 [.int .i64 s, .slice A1 n k1], .row (.slice A1 n k1) 30 32 n (hcs rs.reverse), .box g3 87 [.int .i64 s, .slice A n k]]) (H := fun _ => F) (Ψ := fun _ => True) (fun K36 againK36 => ?_) (fun sK36 hK36 => ?_)
          refine JC.seq fun K37 hK37 => ?_
          refine JC.region ?_
          refine J.yl (y_move rfl rfl) rfl rfl rfl ?_
          · refine J.ylp (y_eq rfl rfl rfl) rfl rfl rfl (fun h5 => ?_) (fun h5 => ?_)
            · refine J.yl (y_move rfl rfl) rfl rfl rfl ?_
              refine J.gyes (y_fb rfl Tb.fo87_0 rfl) rfl rfl rfl rfl rfl rfl ?_
              refine J.gyes (y_lb 2 rfl Tb.ag3 rfl rfl rfl) rfl rfl rfl rfl rfl rfl ?_
              refine J.gyes (y_lt rfl rfl rfl) rfl rfl rfl rfl rfl rfl ?_
              refine J.yl (y_pick rfl rfl (fun _ => rfl) (fun h => by cases h)) rfl rfl rfl ?_
              refine J.nil ?_
              refine JQ.next hK37 ?_
              refine JC.condp rfl (fun h6 => ?_) (fun h6 => ?_)
              · refine JC.region ?_
                refine J.yl (y_fb rfl Tb.fo87_0 rfl) rfl rfl rfl ?_
                refine J.yl (y_lb 2 rfl Tb.ag3 rfl rfl rfl) rfl rfl rfl ?_
                refine J.yl (y_move rfl rfl) rfl rfl rfl ?_
                refine J.yl (y_len rfl Tryd.underlying22 rfl) rfl rfl rfl ?_
                refine J.yl (y_add64 rfl rfl rfl (by omega)) rfl rfl rfl ?_
                refine J.yl (y_assign rfl rfl) rfl rfl rfl ?_
                refine J.nil ?_
                refine againK36 ((s + j : Int), ()) _ trivial (okE_cons rfl okE_nil) (okE_cons rfl (okE_cons rfl (okE_cons rfl (okE_cons rfl (okE_cons rfl (okE_cons rfl okE_nil))))))
              · refine JC.skip ?_
                refine againK36 (m, ()) _ trivial (okE_cons rfl okE_nil) (okE_cons rfl (okE_cons rfl (okE_cons rfl (okE_cons rfl (okE_cons rfl (okE_cons rfl okE_nil))))))
            · refine J.yl (y_move rfl rfl) rfl rfl rfl ?_
              refine J.gno (b := false) rfl rfl rfl rfl rfl rfl ?_
              refine J.gno (b := false) rfl rfl rfl rfl rfl rfl ?_
              refine J.gno (b := false) rfl rfl rfl rfl rfl rfl ?_
              refine J.yl (y_pick rfl rfl (fun h => by cases h) (fun _ => rfl)) rfl rfl rfl ?_
              refine J.nil ?_
              refine JQ.next hK37 ?_
              refine JC.no rfl ?_
              refine JC.skip ?_
              refine againK36 (m, ()) _ trivial (okE_cons rfl okE_nil) (okE_cons rfl (okE_cons rfl (okE_cons rfl (okE_cons rfl (okE_cons rfl (okE_cons rfl okE_nil))))))
          · obtain ⟨z1, u1⟩ := sK36
            dsimp only at hK36 ⊢
            obtain _ := hK36
            refine JQ.next hK35 ?_
            refine JC.seq fun K38 hK38 => ?_
            refine JC.cutE (σ := Int × Unit) (M := fun p => [(17, .int .i64 p.1)]) (kp := [(1, _), (2, _), (3, _), (6, _), (7, _), (16, _)]) (hkp := (okE_cons rfl (okE_cons rfl (okE_cons rfl (okE_cons rfl (okE_cons rfl (okE_cons rfl okE_nil))))))) (Dc := fun _ => [.box g7 87 [.int .i64 s, .slice A1 n k1], .row (.slice A1 n k1) 30 32 n (hcs rs.reverse), .box g3 87 [.int .i64 s, .slice A n k]]) (H := fun _ => F) (Ψ := fun _ => True) (fun K39 againK39 => ?_) (fun sK39 hK39 => ?_)
            refine JC.seq fun K40 hK40 => ?_
            refine JC.region ?_
            refine J.yl (y_move rfl rfl) rfl rfl rfl ?_
            refine J.yl (y_eq rfl rfl rfl) rfl rfl rfl ?_
            refine J.nil ?_
            refine JQ.next hK40 ?_
            · refine JC.condp rfl (fun h7 => ?_) (fun h7 => ?_)
              · obtain ⟨x, hx, hxb⟩ : ∃ x, andI m 4095 = x ∧ x ≤ 4095 := ⟨_, rfl, andI_le _ 4095 (by decide)⟩
                refine JC.region ?_
                refine J.yl (y_move rfl rfl) rfl rfl rfl ?_
                refine J.yl ((y_andI 4095 rfl rfl rfl rfl (by decide)).to (by rw [hx])) rfl rfl rfl ?_
                refine J.yl (y_add64 rfl rfl rfl (by omega)) rfl rfl rfl ?_
                refine J.yl (y_assign rfl rfl) rfl rfl rfl ?_
                refine J.nil ?_
                refine againK39 (1 + (x : Int), ()) _ trivial (okE_cons rfl okE_nil) (okE_cons rfl (okE_cons rfl (okE_cons rfl (okE_cons rfl (okE_cons rfl (okE_cons rfl okE_nil))))))
              · refine JC.skip ?_
                refine againK39 (z1, ()) _ trivial (okE_cons rfl okE_nil) (okE_cons rfl (okE_cons rfl (okE_cons rfl (okE_cons rfl (okE_cons rfl (okE_cons rfl okE_nil))))))
            · obtain ⟨z, u⟩ := sK39
              dsimp only at hK39 ⊢
              obtain _ := hK39
              refine JQ.next hK38 ?_
              refine JC.seq fun K41 hK41 => ?_
              refine JC.region ?_
              refine J.yl (y_lbW 0 rfl Tb.ag87 Tb.sz87 (by first | (simp [length_wl]; done) | rfl) rfl rfl) rfl rfl rfl ?_
              refine J.yl (y_move rfl rfl) rfl rfl rfl ?_
              refine J.yl (y_move rfl rfl) rfl rfl rfl ?_
              have hm2 := hm1 z l
              refine J.callR (Cin := []) rfl rfl rfl rfl Tb.cl71 rfl rfl (merge_fn s rs z l A1 B n k1 j kj hn hj hkj (by omega) (fun w h => ckrow 1 rfl h) (fun w h => hB w h.1)) ?_
              rintro ⟨A2, k2⟩ hk2
              refine J.yl (y_move rfl rfl) rfl rfl rfl ?_
              refine J.yl (y_extract rfl rfl rfl) rfl rfl rfl ?_
              refine J.yl (y_extract rfl rfl rfl) rfl rfl rfl ?_
              refine J.alloc rfl rfl rfl rfl Tb.zz87 rfl fun g18 => ?_
              refine J.storeW 0 rfl rfl rfl rfl rfl rfl rfl Tb.sz87 (by first | (simp [length_wl]; done) | rfl) (by first | (simp [length_wl]; done) | rfl) (by first | exact u32s1 _ | exact one_vc _ | (simp; done) | (intro u hu; simp only [List.mem_cons, List.not_mem_nil, or_false] at hu; rcases hu with rfl | rfl <;> rfl)) ?_
              refine J.yl (y_assign rfl rfl) rfl rfl rfl ?_
              refine J.nil ?_
              refine JQ.next hK41 ?_
              refine JC.seq fun K42 hK42 => ?_
              refine JC.region ?_
              refine J.yl (y_lbW 4 rfl Tb.ag87 Tb.sz87 (by first | (simp [length_wl]; done) | rfl) rfl rfl) rfl rfl rfl ?_
              refine J.yl (y_move rfl rfl) rfl rfl rfl ?_
              refine J.yl (y_move rfl rfl) rfl rfl rfl ?_
              refine J.callR (Cin := []) rfl rfl rfl rfl Tb.cl72 rfl rfl (rmerge_fn s rs z l A B n k j kj hn hj (by omega) (fun w h => hA w h.1) (fun w h => hB w h.1)) ?_
              rintro ⟨A3, k3⟩ hk3
              refine J.yl (y_move rfl rfl) rfl rfl rfl ?_
              refine J.yl (y_extract rfl rfl rfl) rfl rfl rfl ?_
              refine J.yl (y_extract rfl rfl rfl) rfl rfl rfl ?_
              refine J.alloc rfl rfl rfl rfl Tb.zz87 rfl fun g20 => ?_
              refine J.storeW 0 rfl rfl rfl rfl rfl rfl rfl Tb.sz87 (by first | (simp [length_wl]; done) | rfl) (by first | (simp [length_wl]; done) | rfl) (by first | exact u32s1 _ | exact one_vc _ | (simp; done) | (intro u hu; simp only [List.mem_cons, List.not_mem_nil, or_false] at hu; rcases hu with rfl | rfl <;> rfl)) ?_
              refine J.yl (y_assign rfl rfl) rfl rfl rfl ?_
              refine J.nil ?_
              refine JQ.next hK42 ?_
              refine JC.seq fun K43 hK43 => ?_
              refine JC.region ?_
              refine J.yl (y_lbW 2 rfl Tb.ag87 Tb.sz87 (by first | (simp [length_wl]; done) | rfl) rfl rfl) rfl rfl rfl ?_
              refine J.yl (y_lbW 0 rfl Tb.ag87 Tb.sz87 (by first | (simp [length_wl]; done) | rfl) rfl rfl) rfl rfl rfl ?_
              refine J.callv rfl rfl rfl rfl Tb.cl62 rfl ((rrsame_fn (mS s rs z l) (mS s rs z l) (mL s rs z l) (mL s rs z l) A2 A3 _ _ k2 k3 rfl rfl (by omega) (fun w h => ckrow 3 rfl h) (fun w h => ckrow 1 rfl h)).to (by rw [sam_self])) ?_
              refine J.yl ((y_not rfl rfl).to rfl) rfl rfl rfl ?_
              refine J.yl (y_move rfl rfl) rfl rfl rfl ?_
              refine J.gyes (y_move rfl rfl) rfl rfl rfl rfl rfl rfl ?_
              refine J.gyes (y_move rfl rfl) rfl rfl rfl rfl rfl rfl ?_
              refine J.gyes (y_ne rfl rfl rfl) rfl rfl rfl rfl rfl rfl ?_
              refine J.yl (y_pick rfl rfl (fun h => by cases h) (fun _ => rfl)) rfl rfl rfl ?_
              refine J.nil ?_
              refine JQ.next hK43 ?_
              refine JC.condn rfl (fun h8 => ?_) (fun h8 => ?_)
              · exact absurd rfl h8
              · refine JC.skip ?_
                refine JQ.block_normal (JQ.next hK33 ?_)
                refine JC.region ?_
                refine J.yl (y_move rfl rfl) rfl rfl rfl ?_
                refine J.yl (y_add64 rfl rfl rfl (by omega)) rfl rfl rfl ?_
                refine J.yl (y_assign rfl rfl) rfl rfl rfl ?_
                refine J.nil ?_
                refine JQ.drop ?_
                refine JQ.drop ?_
                refine JQ.drop ?_
                refine JQ.drop ?_
                refine againK30 (i + 1) _ (by omega) (by omega) (okE_cons (slotI (by omega)) okE_nil) (okE_cons rfl (okE_cons rfl (okE_cons rfl (okE_cons rfl (okE_cons rfl okE_nil)))))
        · refine JC.exit ?_
          refine JQ.then_exit (JQ.then_exit (JQ.block_hit (JQ.next hK28 ?_)))
          refine JC.seq fun K44 hK44 => ?_
          refine JC.region ?_
          refine J.yl (y_lbW 0 rfl Tb.ag87 Tb.sz87 (by first | (simp [length_wl]; done) | rfl) rfl rfl) rfl rfl rfl ?_
          refine J.yl (y_lbW 2 rfl Tb.ag87 Tb.sz87 (by first | (simp [length_wl]; done) | rfl) rfl rfl) rfl rfl rfl ?_
          refine J.callv rfl rfl rfl rfl Tb.cl62 rfl ((rrsame_fn s s rs.reverse rs.reverse A1 A n n k1 k hnr hnr (by omega) (fun w h => ckrow 1 rfl h) (fun w h => hA w h.1)).to (by rw [sam_self])) ?_
          refine J.yl (y_move rfl rfl) rfl rfl rfl ?_
          refine J.gon rfl rfl rfl rfl ?_
          refine J.callv rfl rfl rfl rfl Tb.cl57 rfl (ranged_fn) ?_
          refine J.yl (y_pick rfl rfl (fun _ => rfl) (fun h => by cases h)) rfl rfl rfl ?_
          refine J.yl (y_assign rfl rfl) rfl rfl rfl ?_
          refine J.nil ?_
          refine JQ.next hK44 ?_
          refine JC.ret ?_
          exact ret1 rfl (r_tmp rfl) fun w hs => Post.pure hs
end Go.Proofs.YtjkfeonbioccmaaDoor
