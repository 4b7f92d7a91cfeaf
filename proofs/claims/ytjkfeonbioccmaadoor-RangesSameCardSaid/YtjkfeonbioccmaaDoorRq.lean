/- Speculum proofs: contracts: the root of a range, by the program. -/
import Derived.Test.YtjkfeonbioccmaaDoorRp
namespace Go.Proofs.YtjkfeonbioccmaaDoor
open Go Go.Sx Go.RowKit
set_option linter.unusedVariables false
set_option linter.unusedSimpArgs false
set_option maxRecDepth 100000
set_option maxHeartbeats 4000000
variable {Gl F : World → Prop}
theorem ones_pos : ∀ n q : Nat, q ≤ n → q ≠ 0 → 1 ≤ ones q := by
  intro n
  induction n with
  | zero => intro q h h0; omega
  | succ n ih =>
    intro q h h0
    rw [ones_step h0]
    by_cases hq : q % 2 = 1
    · omega
    · have := ih (q / 2) (by omega) (by omega)
      omega
theorem root_fn (s : Int) (l : List H) (A : Option Addr) (n k : Nat) (hn : l.length = n) (hk : n ≤ k) (hN : n ≤ 1000000) (hA : ∀ w, F w → Sl w A (hcs l)) :
    PureFn Tryd.prog Gs 68 [.agg #[.int .i64 s, .slice A n k]] F (.tuple #[hv (gR s l), .int .i64 (gE s l)]) := by
  refine FnSpec.introM Tryd.func68 rfl Tryd.ntmps68 rfl fun X M w => ?_
  refine JC.seq fun K1 hK1 => ?_
  refine JC.region ?_
  refine J.box rfl rfl rfl rfl rfl rfl fun g1 => ?_
  refine J.alloc rfl rfl rfl rfl Tb.zz30 rfl fun g2 => ?_
  refine J.yl (y_assign rfl rfl) rfl rfl rfl ?_
  refine J.nil ?_
  refine JQ.next hK1 ?_
  refine JC.seq fun K2 hK2 => ?_
  refine JC.block ?_
  refine JC.seq fun K3 hK3 => ?_
  refine JC.region ?_
  refine J.yl (y_lbW 1 rfl Tb.ag87 Tb.sz87 (by first | (simp [length_wl]; done) | rfl) rfl rfl) rfl rfl rfl ?_
  refine J.callv rfl rfl rfl rfl Tb.cl67 rfl (valid_fn s l A n k hn) ?_
  refine J.yl (y_not rfl rfl) rfl rfl rfl ?_
  refine J.yl (y_assign rfl rfl) rfl rfl rfl ?_
  refine J.nil ?_
  refine JQ.next hK3 ?_
  refine JC.cond rfl (fun h1 => ?_) (fun h1 => ?_)
  · have hf : vld s l = false := by simpa using h1
    have e1 : gR s l = H.zero := if_neg (by rw [hf]; decide)
    have e2 : gE s l = 2 := if_neg (by rw [hf]; decide)
    refine JC.seq fun K4 hK4 => ?_
    refine JC.region ?_
    refine J.yl (y_buildA (cs := hc H.zero) rfl Tryd.underlying30 Tb.zz30 Tb.sz5 rfl rfl) rfl rfl rfl ?_
    refine J.storeW 0 rfl rfl rfl rfl rfl rfl rfl Tb.sz30 (hcl _) (hcl _) (hc1 _) ?_
    refine J.yl (y_assign rfl rfl) rfl rfl rfl ?_
    refine J.nil ?_
    refine JQ.next hK4 ?_
    refine JC.ret ?_
    refine JQ.block_ret (JQ.then_ret ?_)
    exact ret_marks (ret2 rfl (r_cellA 0 rfl rfl Tb.ag30 (by rw [hcl]; exact Tb.sz30)) (r_tmp rfl) fun w hs => by rw [e1, e2]; exact Post.pure hs)
  · have ht : vld s l = true := by simpa using h1
    have hv3 : 0 ≤ s ∧ s ≤ 4096 ∧ l.length = ones s.toNat := of_decide_eq_true ht
    have e1 : gR s l = rootR l.reverse := if_pos ht
    have e2 : gE s l = 0 := if_pos ht
    refine JC.seq fun K5 hK5 => ?_
    refine JC.region ?_
    refine J.yl (y_fb rfl Tb.fo87_0 rfl) rfl rfl rfl ?_
    refine J.yl (y_lb 1 rfl Tb.ag3 rfl rfl rfl) rfl rfl rfl ?_
    refine J.yl (y_eq rfl rfl rfl) rfl rfl rfl ?_
    refine J.yl (y_assign rfl rfl) rfl rfl rfl ?_
    refine J.nil ?_
    refine JQ.next hK5 ?_
    refine JC.condp rfl (fun h2 => ?_) (fun h2 => ?_)
    · obtain rfl : l = [] := by
        obtain rfl : s = 0 := by omega
        exact List.eq_nil_of_length_eq_zero hv3.2.2
      refine JC.seq fun K6 hK6 => ?_
      refine JC.region ?_
      refine J.callv rfl rfl rfl rfl Tb.cl30 rfl (root_spec [] none 0 0 rfl (Nat.le_refl _) (by omega) (fun w _ => .inl rfl)) ?_
      refine J.storeW 0 rfl rfl rfl rfl rfl rfl rfl Tb.sz30 (hcl _) (hcl _) (hc1 _) ?_
      refine J.yl (y_assign rfl rfl) rfl rfl rfl ?_
      refine J.nil ?_
      refine JQ.next hK6 ?_
      refine JC.ret ?_
      refine JQ.block_ret (JQ.then_ret ?_)
      exact ret_marks (ret2 rfl (r_cellA (cs := hc (root [])) 0 rfl rfl Tb.ag30 (by rw [hcl]; exact Tb.sz30)) (r_tmp rfl) fun w hs => by rw [e1, e2]; exact Post.pure hs)
    · have hp := ones_pos s.toNat s.toNat (Nat.le_refl _) (by omega)
      obtain ⟨last, hlast⟩ : ∃ x, l[n - 1]? = some x := ⟨_, List.getElem?_eq_getElem (show n - 1 < l.length by omega)⟩
      have hR0 := rootR_last l (n - 1) last hlast (by omega)
      have hlt : (l.take (n - 1)).length = n - 1 := by rw [List.length_take]; omega
      have hx' : ∀ i x, (l.take (n - 1))[i]? = some x → l[i]? = some x ∧ i + 1 < l.length := fun i x h => by
        rw [List.getElem?_take] at h
        split at h
        · exact ⟨h, by omega⟩
        · cases h
      refine JC.skip ?_
      refine JQ.block_normal (JQ.next hK2 ?_)
      refine JC.seq fun K7 hK7 => ?_
      refine JC.region ?_
      refine J.yl (y_fb rfl Tb.fo87_1 rfl) rfl rfl rfl ?_
      refine J.yl (y_lb 1 rfl Tb.ag22 rfl rfl rfl) rfl rfl rfl ?_
      refine J.yl (y_len rfl Tryd.underlying22 rfl) rfl rfl rfl ?_
      refine J.yl (y_sub64 rfl rfl rfl (by omega)) rfl rfl rfl ?_
      refine J.yl (y_assign rfl rfl) rfl rfl rfl ?_
      refine J.nil ?_
      refine JQ.next hK7 ?_
      refine JC.seq fun K8 hK8 => ?_
      refine JC.region ?_
      refine J.yl (y_fb rfl Tb.fo87_1 rfl) rfl rfl rfl ?_
      refine J.yl (y_lb 1 rfl Tb.ag22 rfl rfl rfl) rfl rfl rfl ?_
      refine J.yl (y_move rfl rfl) rfl rfl rfl ?_
      refine J.yl (y_hidx (n - 1) rfl Tryd.underlying22 Tb.sz30 rfl rfl (by omega) hn (by omega) (fun w hs => hA w hs.fact)) rfl rfl rfl ?_
      refine J.yl (y_hld last rfl Tb.ag30 Tb.sz30 rfl hlast (fun w hs => hA w hs.fact)) rfl rfl rfl ?_
      refine J.alloc rfl rfl rfl rfl Tb.zz30 rfl fun g5 => ?_
      refine J.storeW 0 rfl rfl rfl rfl rfl rfl rfl Tb.sz30 (hcl _) (hcl _) (hc1 _) ?_
      refine J.nil ?_
      refine JQ.next hK8 ?_
      refine JC.seq fun K9 hK9 => ?_
      refine JC.seq fun K10 hK10 => ?_
      refine JC.region ?_
      refine J.yl (y_fb rfl Tb.fo87_1 rfl) rfl rfl rfl ?_
      refine J.yl (y_lb 2 rfl Tb.ag22 rfl rfl rfl) rfl rfl rfl ?_
      refine J.yl (y_move rfl rfl) rfl rfl rfl ?_
      refine J.yl (y_cuttoN (n - 1) rfl Tryd.underlying22 Tb.sz30 rfl rfl (by omega) (by omega)) rfl rfl rfl ?_
      refine J.callR (Cin := []) rfl rfl rfl rfl Tb.cl138 rfl rfl (backward_fn A (n - 1) k) ?_
      rintro gb _
      refine J.nil ?_
      refine JQ.next hK10 ?_
      refine JC.block ?_
      refine JC.st ?_ (fun w hs => hs.perm (List.Perm.swap _ _ _))
      refine JC.over (caps := [.pointer (some ⟨gb, 0, none⟩)]) (Cin := [_, _]) (Cr := [_, _]) (Cout := [.box g5 30 (hc (rootR l.reverse)), .box gb 22 [.slice A (n - 1) k]]) rfl Tb.cl174 rfl (fun L rec q1 q2 q3 q4 q5 hag => ?_) (fun D a w ha hd hst => ?_)
      · have hb := fun F' hF' => back1_fn (Gl := Gs) (F := F') L gb (l.take (n - 1)) A (n - 1) k hlt (by omega) hF' (fun i => (.mp L (.loop rec), .box g5 30 (hc (rootR (l.drop i).reverse))))
        dsimp only at hb
        rw [hR0, List.drop_zero] at hb
        refine hb _ (fun w h => (hA w h.1).htake _) fun i x hx => ?_
        obtain ⟨hx1, hx2⟩ := hx' i x hx
        have hRi := rootR_drop l i x hx1 hx2
        rw [hRi]
        generalize rootR (l.drop (i + 1)).reverse = acc
        refine YldSpec.round (nn := 38) (κ := Nat) (tm := [(33, hv x), (32, .int .i64 (i : Int)), (5, .pointer (some ⟨g5, 0, none⟩))]) (t1 := fun g7 => [(7, .pointer (some ⟨g7, 0, none⟩)), (5, .pointer (some ⟨g5, 0, none⟩))])
          (C1 := fun g7 => [.box g7 30 (hc x), .box g5 30 (hc acc)]) (Cin := [_]) (Cout := [_]) q1 q2 (by rw [q3]; rfl) ?_ ?_ ?_
        · rw [q3]
          have e : ((#[32, 33] : Array Tmp).zip [Value.int .i64 (i : Int), hv x].toArray).foldl (fun tmps (t, a) => tmps.setIfInBounds t a) rec.tmps = (rec.tmps.setIfInBounds 32 (.int .i64 (i : Int))).setIfInBounds 33 (hv x) := by simp
          rw [e]
          refine Ag.sub ((hag.put (d := 32) (show 32 < 38 by decide) (.int .i64 (i : Int))).put (d := 33) (show 33 < 38 by decide) (hv x)) ?_
          exact okE_lk (okE_cons rfl (okE_cons rfl (okE_cons rfl okE_nil)))
        · intro X M w K hK
          rw [q4]
          refine JR.region (fun ⟨_, _, h⟩ => h) rfl ?_
          refine J.alloc rfl rfl rfl rfl Tb.zz30 rfl fun g7 => ?_
          refine J.storeW 0 rfl rfl rfl rfl rfl rfl rfl Tb.sz30 (hcl _) (hcl _) (hc1 _) ?_
          refine J.nil ?_
          exact fun a w ha hs => hK g7 a w (ha.sub (okE_lk (okE_cons rfl (okE_cons rfl okE_nil)))) (hs.perm (List.Perm.swap _ _ _))
        · intro g7 X M w Q hl hQ
          generalize ({ rec with state := .busy } : Loop) = rb at hQ ⊢
          rw [q5]
          refine JR.block (JR.region hl rfl ?_)
          refine J.yl (y_lbW 1 rfl Tb.ag30 Tb.sz30 (hcl _) rfl rfl) rfl rfl rfl ?_
          refine J.yl (y_lbW 2 rfl Tb.ag30 Tb.sz30 (hcl _) rfl rfl) rfl rfl rfl ?_
          refine J.callv rfl rfl rfl rfl Tb.cl105 rfl (node_spec x acc) ?_
          refine J.storeW 2 rfl rfl rfl rfl rfl rfl rfl Tb.sz30 (hcl _) (hcl _) (hc1 _) ?_
          refine J.nil ?_
          refine JQ.block_normal ?_
          refine fun a w ha hs => hQ a w (ha.sub fun i v h => by cases h) ?_
          have hs' : St _ _ [.mp L _, .box g7 _ _, .box g5 _ _] _ := hs
          exact hs'.forget (.cons_cons _ (.cons _ (List.Sublist.refl _)))
      · refine hK9 _ _ ?_
        refine JC.tail2 (tm' := [(3, .int .i64 0), (2, .pointer (some ⟨g2, 0, none⟩))]) (C' := [.box g5 30 (hc (rootR l.reverse)), .box gb 22 [.slice A (n - 1) k], .box g2 30 (hc (rootR l.reverse)), .box g1 87 [.int .i64 s, .slice A n k]]) rfl (fun K hK => ?_) (r_cellA (cs := hc (rootR l.reverse)) 3 rfl rfl Tb.ag30 (by rw [hcl]; exact Tb.sz30)) (r_tmp rfl) (fun w hs => by rw [e1, e2]; exact Post.pure hs) a w ha hd hst
        refine J.yl (y_lbW 1 rfl Tb.ag30 Tb.sz30 (hcl _) rfl rfl) rfl rfl rfl ?_
        refine J.storeW 3 rfl rfl rfl rfl rfl rfl rfl Tb.sz30 (hcl _) (hcl _) (hc1 _) ?_
        refine J.yl (y_assign rfl rfl) rfl rfl rfl ?_
        refine J.nil ?_
        exact fun a w ha hs => hK a w (ha.sub (okE_lk (okE_cons rfl (okE_cons rfl okE_nil)))) hs
end Go.Proofs.YtjkfeonbioccmaaDoor
