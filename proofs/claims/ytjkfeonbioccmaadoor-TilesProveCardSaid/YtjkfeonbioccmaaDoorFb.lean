/- Speculum proofs: contracts: roots, lists of leaves, equal lists. -/
import Derived.Test.YtjkfeonbioccmaaDoorFa
namespace Go.Proofs.YtjkfeonbioccmaaDoor
open Go Go.Sx Go.RowKit
set_option linter.unusedVariables false
set_option linter.unusedSimpArgs false
set_option maxRecDepth 100000
set_option maxHeartbeats 400000
variable {Gl F : World → Prop}

theorem root1_spec (l : List H) (A : Option Addr) (n k g1 g3 : Nat) (hn : l.length = n) (hk : n ≤ k) (hM : n ≤ 1000000) : ∀ (m i j : Nat), i < j → j ≤ n → j - i ≤ m → ∀ (a b : Int), a = i → b = j → ∀ F : World → Prop, (∀ w, F w → w.cell? ⟨g1, 0, none⟩ = some (.slice A n k) ∧ w.cell? ⟨g3, 0, none⟩ = some (.func (.func 114) #[] #[.pointer (some ⟨g1, 0, none⟩), .pointer (some ⟨g3, 0, none⟩)]) ∧ Sl w A (hcs l)) →
    PureFn Tryd.prog Gs 114 [.int .i64 a, .int .i64 b, .pointer (some ⟨g1, 0, none⟩), .pointer (some ⟨g3, 0, none⟩)] F (hv (root ((l.take j).drop i))) := by
  intro m
  induction m with
  | zero => intro i j h1 h2 h3; omega
  | succ m ih =>
    intro i j h1 h2 h3 a b ha hb F hF
    subst ha; subst hb
    have hlen : ((l.take j).drop i).length = j - i := by rw [List.length_drop, List.length_take]; omega
    refine FnSpec.intro Tryd.func114 rfl Tryd.ntmps114 rfl fun X M w => ?_
    refine JC.seq fun K1 hK1 => ?_
    refine JC.region ?_
    refine J.alloc rfl rfl rfl rfl Tb.zz30 rfl fun g6 => ?_
    refine J.nil ?_
    refine JQ.next hK1 ?_
    refine JC.seq fun K2 hK2 => ?_
    refine JC.region ?_
    refine J.yl (y_move rfl rfl) rfl rfl rfl ?_
    refine J.yl (y_move rfl rfl) rfl rfl rfl ?_
    refine J.yl (y_sub64 rfl rfl rfl (by omega)) rfl rfl rfl ?_
    refine J.callv rfl rfl rfl rfl Tb.cl107 rfl (split_fn (j - i) _ (by omega) (by omega)) ?_
    refine J.yl (y_assign rfl rfl) rfl rfl rfl ?_
    refine J.nil ?_
    refine JQ.next hK2 ?_
    refine JC.seq fun K3 hK3 => ?_
    refine JC.seq fun K4 hK4 => ?_
    refine JC.region ?_
    refine J.yl (y_move rfl rfl) rfl rfl rfl ?_
    refine J.yl (y_eq rfl rfl rfl) rfl rfl rfl ?_
    refine J.nil ?_
    refine JQ.next hK4 ?_
    refine JC.condp rfl (fun h4 => ?_) (fun h4 => ?_)
    · have h5 : j - i = 1 := by
        rcases Nat.lt_or_ge (j - i) 2 with h | h
        · omega
        · have := split_spec h; omega
      obtain ⟨x, hx⟩ : ∃ x, l[i]? = some x := ⟨_, List.getElem?_eq_getElem (show i < l.length by omega)⟩
      have hr : root ((l.take j).drop i) = x := by
        have h6 : (l.take j).drop i = [x] := by
          apply List.ext_getElem?
          intro q
          rw [List.getElem?_drop, List.getElem?_take]
          cases q with
          | zero => rw [if_pos (by omega), Nat.add_zero, hx]; rfl
          | succ q => rw [if_neg (by omega)]; rfl
        rw [h6]; rfl
      refine JC.seq fun K5 hK5 => ?_
      refine JC.region ?_
      refine J.yl (y_load1 rfl Tb.ag22 rfl (fun w hs => (hF w hs.fact).1)) rfl rfl rfl ?_
      refine J.yl (y_move rfl rfl) rfl rfl rfl ?_
      refine J.yl (y_hidx i rfl Tryd.underlying22 Tb.sz30 rfl rfl rfl hn (by omega) (fun w hs => (hF w hs.fact).2.2)) rfl rfl rfl ?_
      refine J.yl (y_hld x rfl Tb.ag30 Tb.sz30 rfl hx (fun w hs => (hF w hs.fact).2.2)) rfl rfl rfl ?_
      refine J.storeW 0 rfl rfl rfl rfl rfl rfl rfl Tb.sz30 (hcl _) (hcl _) (hc1 _) ?_
      refine J.nil ?_
      refine JQ.next hK5 ?_
      refine JC.ret ?_
      refine JQ.then_ret ?_
      exact ret1 rfl (r_cellA 0 rfl rfl Tb.ag30 (by rw [hcl]; exact Tb.sz30)) fun w hs => by rw [hr]; exact Post.pure hs
    · have h5 : 2 ≤ j - i := by
        rcases Nat.lt_or_ge (j - i) 2 with h | h
        · rw [split_small h] at h4; omega
        · exact h
      have hs := split_spec h5
      have hr : root ((l.take j).drop i) = node (root ((l.take (i + split (j - i))).drop i)) (root ((l.take j).drop (i + split (j - i)))) := by
        rw [root_two _ (by omega), hlen, take_drop_take _ _ _ _ (by omega), List.drop_drop]
      refine JC.skip ?_
      refine JQ.next hK3 ?_
      refine JC.seq fun K6 hK6 => ?_
      refine JC.draw (by kernel_rfl) ?_
      refine D.take 1 (y_move rfl rfl) rfl rfl rfl rfl (by kernel_rfl) (by kernel_rfl) (by kernel_rfl) (PQ.next PQ.body) ?_
      refine D.take 2 (y_move rfl rfl) rfl rfl rfl rfl (by kernel_rfl) (by kernel_rfl) (by kernel_rfl) (PQ.next PQ.body) ?_
      refine D.take 3 (y_move rfl rfl) rfl rfl rfl rfl (by kernel_rfl) (by kernel_rfl) (by kernel_rfl) (PQ.next PQ.body) ?_
      refine D.take 4 (y_add64 rfl rfl rfl (by omega)) rfl rfl rfl rfl (by kernel_rfl) (by kernel_rfl) (by kernel_rfl) (PQ.next PQ.body) ?_
      refine D.take 7 (y_move rfl rfl) rfl rfl rfl rfl (by kernel_rfl) (by kernel_rfl) (by kernel_rfl) (PQ.next PQ.body) ?_
      refine D.take 8 (y_move rfl rfl) rfl rfl rfl rfl (by kernel_rfl) (by kernel_rfl) (by kernel_rfl) (PQ.next PQ.body) ?_
      refine D.take 9 (y_add64 rfl rfl rfl (by omega)) rfl rfl rfl rfl (by kernel_rfl) (by kernel_rfl) (by kernel_rfl) (PQ.next PQ.body) ?_
      refine D.take 10 (y_move rfl rfl) rfl rfl rfl rfl (by kernel_rfl) (by kernel_rfl) (by kernel_rfl) (PQ.next PQ.body) ?_
      refine D.take 0 (y_load1 rfl Tb.ag162 rfl (fun w hs => (hF w hs.fact).2.1)) rfl rfl rfl rfl (by kernel_rfl) (by kernel_rfl) (by kernel_rfl) (PQ.next PQ.body) ?_
      refine D.take 6 (y_load1 rfl Tb.ag162 rfl (fun w hs => (hF w hs.fact).2.1)) rfl rfl rfl rfl (by kernel_rfl) (by kernel_rfl) (by kernel_rfl) (PQ.next PQ.body) ?_
      refine D.callcv 5 (by kernel_rfl) rfl rfl rfl rfl rfl rfl Tb.cl114 rfl (ih i (i + split (j - i)) (by omega) (by omega) (by omega) _ _ rfl (by omega) _ (fun w h => hF w h.1)) ?_
      refine D.callcv 11 (by kernel_rfl) rfl rfl rfl rfl rfl rfl Tb.cl114 rfl (ih (i + split (j - i)) j (by omega) (by omega) (by omega) _ _ (by omega) rfl _ (fun w h => hF w h.1)) ?_
      refine D.callv 12 (by kernel_rfl) rfl rfl rfl rfl rfl Tb.cl105 rfl (node_spec _ _) ?_
      refine D.storeW 13 0 (by kernel_rfl) rfl (by kernel_rfl) (by kernel_rfl) rfl rfl rfl rfl rfl rfl rfl Tb.sz30  (hcl _) (hcl _) (hc1 _) ?_
      refine JQ.next hK6 ?_
      refine JC.ret ?_
      exact ret1 rfl (r_cellA 0 rfl rfl Tb.ag30 (by rw [hcl]; exact Tb.sz30)) fun w hs => by rw [hr]; exact Post.pure hs
theorem root_spec (l : List H) (A : Option Addr) (n k : Nat) (hn : l.length = n) (hk : n ≤ k) (hM : n ≤ 1000000) (hA : ∀ w, F w → Sl w A (hcs l)) : PureFn Tryd.prog Gs 30 [.slice A n k] F (hv (root l)) := by
  refine FnSpec.intro Tryd.func30 rfl Tryd.ntmps30 rfl fun X M w => ?_
  refine JC.seq fun K1 hK1 => ?_
  refine JC.region ?_
  refine J.box rfl rfl rfl rfl rfl rfl fun g1 => ?_
  refine J.alloc rfl rfl rfl rfl Tb.zz30 rfl fun g2 => ?_
  refine J.nil ?_
  refine JQ.next hK1 ?_
  refine JC.seq fun K2 hK2 => ?_
  refine JC.seq fun K3 hK3 => ?_
  refine JC.region ?_
  refine J.yl (y_lb 1 rfl Tb.ag22 rfl rfl rfl) rfl rfl rfl ?_
  refine J.yl (y_len rfl Tryd.underlying22 rfl) rfl rfl rfl ?_
  refine J.yl (y_eq rfl rfl rfl) rfl rfl rfl ?_
  refine J.nil ?_
  refine JQ.next hK3 ?_
  refine JC.condp rfl (fun h1 => ?_) (fun h1 => ?_)
  · obtain rfl : l = [] := List.eq_nil_of_length_eq_zero (by omega)
    refine JC.seq fun K4 hK4 => ?_
    refine JC.region ?_
    refine J.callv rfl rfl rfl rfl Tb.cl113 rfl (sum_spec (fun _ h => h) [] (by simp)) ?_
    refine J.storeW 0 rfl rfl rfl rfl rfl rfl rfl Tb.sz30 (hcl _) (hcl _) (hc1 _) ?_
    refine J.nil ?_
    refine JQ.next hK4 ?_
    refine JC.ret ?_
    refine JQ.then_ret ?_
    exact ret1 rfl (r_cellA 0 rfl rfl Tb.ag30 (by rw [hcl]; exact Tb.sz30)) fun w hs => Post.pure hs
  · refine JC.skip ?_
    refine JQ.next hK2 ?_
    refine JC.seq fun K5 hK5 => ?_
    refine JC.region ?_
    refine J.alloc rfl rfl rfl rfl Tb.zz162 rfl fun g3 => ?_
    refine J.nil ?_
    refine JQ.next hK5 ?_
    refine JC.seq fun K6 hK6 => ?_
    refine JC.region ?_
    refine J.yl (y_funcE rfl rfl rfl) rfl rfl rfl ?_
    refine J.store1 0 rfl rfl rfl rfl rfl rfl rfl Tb.sz162 (by first | (simp; done) | exact Nat.le_of_ble_eq_true rfl) rfl ?_
    refine J.nil ?_
    refine JQ.next hK6 ?_
    refine JC.seq fun K7 hK7 => ?_
    refine JC.region ?_
    refine J.yl (y_lb 0 rfl Tb.ag162 rfl rfl rfl) rfl rfl rfl ?_
    refine J.yl (y_lb 2 rfl Tb.ag22 rfl rfl rfl) rfl rfl rfl ?_
    refine J.yl (y_len rfl Tryd.underlying22 rfl) rfl rfl rfl ?_
    refine J.callcv rfl rfl rfl rfl rfl Tb.cl114 rfl (root1_spec l A n k g1 g3 hn hk hM n 0 n (by omega) (Nat.le_refl _) (by omega) _ _ rfl rfl _ (fun w h => ⟨cell_box (ck 2 rfl h) rfl, cell_box (ck 0 rfl h) rfl, hA w h.1⟩)) ?_
    refine J.storeW 1 rfl rfl rfl rfl rfl rfl rfl Tb.sz30 (hcl _) (hcl _) (hc1 _) ?_
    refine J.nil ?_
    refine JQ.next hK7 ?_
    refine JC.ret ?_
    exact ret1 rfl (r_cellA 1 rfl rfl Tb.ag30 (by rw [hcl]; exact Tb.sz30)) fun w hs => by
      have hr : (l.take n).drop 0 = l := by rw [List.drop_zero, List.take_of_length_le (by omega)]
      rw [hr]; exact Post.pure hs
theorem some_fn (n : Nat) (a : Int) (seed : UInt8) (ha : a = n) (hn : n ≤ 100000) : FnSpec Tryd.prog Gl 29 [.int .i64 a, u8 seed] [] F (ι := Option Addr × Nat) (fun i => n ≤ i.2) (fun i => .slice i.1 n i.2) (fun i => [.row (.slice i.1 n i.2) 30 32 n (hcs (someL n seed))]) (fun _ _ => True) := by
  subst ha
  refine FnSpec.intro Tryd.func29 rfl Tryd.ntmps29 rfl fun X M w => ?_
  refine JC.seq fun K1 hK1 => ?_
  refine JC.region ?_
  refine J.yl (y_assign rfl rfl) rfl rfl rfl ?_
  refine J.nil ?_
  refine JQ.next hK1 ?_
  refine JC.seq fun K2 hK2 => ?_
  refine JC.region ?_
  refine J.yl (y_assign rfl rfl) rfl rfl rfl ?_
  refine J.nil ?_
  refine JQ.next hK2 ?_
  refine JC.seq fun K3 hK3 => ?_
  refine JC.seq fun K4 hK4 => ?_
  refine JC.region ?_
  refine J.yl (y_assign rfl rfl) rfl rfl rfl ?_
  refine J.nil ?_
  refine JQ.next hK4 ?_
  refine JC.block ?_
  refine JC.st ?_ (fun w hs => hs.nilrow 30 32)
  refine JC.loopE (σ := Nat × Option Addr × Nat) (M := fun q => [(6, .int .i64 (q.1 : Int)), (5, .slice q.2.1 q.1 q.2.2)]) (kp := [(0, _), (1, _)]) (hkp := (okE_cons rfl (okE_cons rfl okE_nil))) (Dc := fun q => [.row (.slice q.2.1 q.1 q.2.2) 30 32 q.1 (hcs (someL q.1 seed))]) (H := fun _ => F) (Ψ := fun q => q.1 ≤ n ∧ q.1 ≤ q.2.2) (μ := fun q => n - q.1) (0, none, 0) ⟨Nat.zero_le _, Nat.zero_le _⟩ (okE_cons rfl (okE_cons rfl okE_nil)) (fun w h => h) (fun sK5 hK5 K5 againK5 => ?_)
  obtain ⟨i, A, k⟩ := sK5
  dsimp only at hK5 againK5 ⊢
  obtain ⟨hi, hik⟩ := hK5
  refine JC.seq fun K6 hK6 => ?_
  refine JC.seq fun K7 hK7 => ?_
  refine JC.region ?_
  refine J.yl (y_move rfl rfl) rfl rfl rfl ?_
  refine J.yl (y_move rfl rfl) rfl rfl rfl ?_
  refine J.yl (y_lt rfl rfl rfl) rfl rfl rfl ?_
  refine J.nil ?_
  refine JQ.next hK7 ?_
  refine JC.condp rfl (fun h1 => ?_) (fun h1 => ?_)
  · refine JC.skip ?_
    refine JQ.next hK6 ?_
    refine JC.seq fun K8 hK8 => ?_
    refine JC.block ?_
    refine JC.region ?_
    refine J.yl (y_move rfl rfl) rfl rfl rfl ?_
    refine J.yl (y_move rfl rfl) rfl rfl rfl ?_
    refine J.yl (y_move rfl rfl) rfl rfl rfl ?_
    refine J.yl (y_ito8 i rfl (isS Tryd.underlying3) Tryd.underlying5 rfl rfl) rfl rfl rfl ?_
    refine J.yl (y_move rfl rfl) rfl rfl rfl ?_
    refine J.yl (y_quo64 rfl rfl rfl (by omega)) rfl rfl rfl ?_
    refine J.yl (y_ito8 (i / 256) rfl (isS Tryd.underlying3) Tryd.underlying5 rfl (by omega)) rfl rfl rfl ?_
    refine J.yl (y_buildA (cs := hc (someH seed i)) rfl Tryd.underlying30 Tb.zz30 Tb.sz5 rfl (fillH seed (UInt8.ofNat i) (UInt8.ofNat (i / 256)) 1)) rfl rfl rfl ?_
    refine J.bs1 rfl rfl rfl rfl rfl Tryd.underlying22 Tb.zz30 Tb.sz30 rfl (by decide) rfl (hcl _) fun g20 => ?_
    refine J.append 1 rfl rfl rfl rfl rfl rfl Tryd.underlying22 Tb.zz30 Tb.sz30 Tb.by30 rfl (by decide) rfl (by rw [hcl]) (fun w hs => .inr ⟨rfl, At.box (hs.get (i := 0) rfl)⟩) (hc1 _) (by omega) (by decide) (rfl) ((by rw [someL_succ, hcs_append, hcs_one] : hcs (someL i seed) ++ hc (someH seed i) = hcs (someL (i + 1) seed))) fun A k hAx hkx => ?_
    refine J.drop ?_
    refine J.yl (y_assign rfl rfl) rfl rfl rfl ?_
    refine J.nil ?_
    refine JQ.block_normal (JQ.next hK8 ?_)
    refine JC.region ?_
    refine J.yl (y_move rfl rfl) rfl rfl rfl ?_
    refine J.yl (y_add64 rfl rfl rfl (by omega)) rfl rfl rfl ?_
    refine J.yl (y_assign rfl rfl) rfl rfl rfl ?_
    refine J.nil ?_
    refine againK5 (i + 1, A, k) _ ⟨by dsimp only; omega, by dsimp only; omega⟩ (by dsimp only; omega) (okE_cons rfl (okE_cons rfl okE_nil)) (okE_cons rfl (okE_cons rfl okE_nil))
  · obtain rfl : i = n := by omega
    refine JC.exit ?_
    refine JQ.then_exit (JQ.then_exit (JQ.block_hit (JQ.next hK3 ?_)))
    refine JC.seq fun K10 hK10 => ?_
    refine JC.region ?_
    refine J.yl (y_move rfl rfl) rfl rfl rfl ?_
    refine J.yl (y_assign rfl rfl) rfl rfl rfl ?_
    refine J.nil ?_
    refine JQ.next hK10 ?_
    refine JC.ret ?_
    exact ret1 rfl (r_tmp rfl) fun w hs => Post.of_st hs (A, k) hik (List.Sublist.refl _) fun _ _ => trivial
theorem same_fn (a b : List H) (A B : Option Addr) (n m k j : Nat) (hn : a.length = n) (hm : b.length = m) (hM : n ≤ 1000000) (hA : ∀ w, F w → Sl w A (hcs a)) (hB : ∀ w, F w → Sl w B (hcs b)) : PureFn Tryd.prog Gl 26 [.slice A n k, .slice B m j] F (.bool (decide (a = b))) := by
  refine FnSpec.intro Tryd.func26 rfl Tryd.ntmps26 rfl fun X M w => ?_
  refine JC.seq fun K1 hK1 => ?_
  refine JC.region ?_
  refine J.yl (y_assign rfl rfl) rfl rfl rfl ?_
  refine J.nil ?_
  refine JQ.next hK1 ?_
  refine JC.seq fun K2 hK2 => ?_
  refine JC.seq fun K3 hK3 => ?_
  refine JC.region ?_
  refine J.yl (y_move rfl rfl) rfl rfl rfl ?_
  refine J.yl (y_len rfl Tryd.underlying22 rfl) rfl rfl rfl ?_
  refine J.yl (y_move rfl rfl) rfl rfl rfl ?_
  refine J.yl (y_len rfl Tryd.underlying22 rfl) rfl rfl rfl ?_
  refine J.yl (y_ne rfl rfl rfl) rfl rfl rfl ?_
  refine J.nil ?_
  refine JQ.next hK3 ?_
  refine JC.condn rfl (fun h1 => ?_) (fun h1 => ?_)
  · have hne : a ≠ b := by rintro rfl; omega
    refine JC.seq fun K4 hK4 => ?_
    refine JC.region ?_
    refine J.yl (y_assign rfl rfl) rfl rfl rfl ?_
    refine J.nil ?_
    refine JQ.next hK4 ?_
    refine JC.ret ?_
    refine JQ.then_ret ?_
    exact ret1 rfl (r_tmp rfl) fun w hs => by rw [decide_eq_false hne]; exact Post.pure hs
  · have h1' : n = m := by omega
    subst h1'
    refine JC.skip ?_
    refine JQ.next hK2 ?_
    refine JC.seq fun K5 hK5 => ?_
    refine JC.seq fun K6 hK6 => ?_
    refine JC.region ?_
    refine J.yl (y_assign rfl rfl) rfl rfl rfl ?_
    refine J.nil ?_
    refine JQ.next hK6 ?_
    refine JC.block ?_
    refine JC.loopE (σ := Nat) (M := fun i => [(5, .int .i64 (i : Int))]) (kp := [(0, _), (1, _)]) (hkp := (okE_cons rfl (okE_cons rfl okE_nil))) (Dc := fun _ => []) (H := fun _ => F) (Ψ := fun i => i ≤ n ∧ a.take i = b.take i) (μ := fun i => n - i) 0 ⟨Nat.zero_le _, rfl⟩ (okE_cons rfl okE_nil) (fun w h => h) (fun i ⟨hi, hab⟩ K7 againK7 => ?_)
    refine JC.seq fun K8 hK8 => ?_
    refine JC.seq fun K9 hK9 => ?_
    refine JC.region ?_
    refine J.yl (y_move rfl rfl) rfl rfl rfl ?_
    refine J.yl (y_move rfl rfl) rfl rfl rfl ?_
    refine J.yl (y_len rfl Tryd.underlying22 rfl) rfl rfl rfl ?_
    refine J.yl (y_lt rfl rfl rfl) rfl rfl rfl ?_
    refine J.nil ?_
    refine JQ.next hK9 ?_
    refine JC.condp rfl (fun h2 => ?_) (fun h2 => ?_)
    · obtain ⟨x, hx⟩ : ∃ x, a[i]? = some x := ⟨_, List.getElem?_eq_getElem (show i < a.length by omega)⟩
      obtain ⟨y, hy⟩ : ∃ y, b[i]? = some y := ⟨_, List.getElem?_eq_getElem (show i < b.length by omega)⟩
      refine JC.skip ?_
      refine JQ.next hK8 ?_
      refine JC.seq fun K10 hK10 => ?_
      refine JC.block ?_
      refine JC.seq fun K11 hK11 => ?_
      refine JC.draw (by kernel_rfl) ?_
      refine D.take 0 (y_move rfl rfl) rfl rfl rfl rfl (by kernel_rfl) (by kernel_rfl) (by kernel_rfl) (PQ.next (PQ.block (PQ.next (PQ.next (PQ.block (PQ.next PQ.body)))))) ?_
      refine D.take 1 (y_move rfl rfl) rfl rfl rfl rfl (by kernel_rfl) (by kernel_rfl) (by kernel_rfl) (PQ.next (PQ.block (PQ.next (PQ.next (PQ.block (PQ.next PQ.body)))))) ?_
      refine D.take 4 (y_move rfl rfl) rfl rfl rfl rfl (by kernel_rfl) (by kernel_rfl) (by kernel_rfl) (PQ.next (PQ.block (PQ.next (PQ.next (PQ.block (PQ.next PQ.body)))))) ?_
      refine D.take 5 (y_move rfl rfl) rfl rfl rfl rfl (by kernel_rfl) (by kernel_rfl) (by kernel_rfl) (PQ.next (PQ.block (PQ.next (PQ.next (PQ.block (PQ.next PQ.body)))))) ?_
      refine D.take 2 (y_hidx i rfl Tryd.underlying22 Tb.sz30 rfl rfl rfl hn (by omega) (fun w hs => hA w hs.fact)) rfl rfl rfl rfl (by kernel_rfl) (by kernel_rfl) (by kernel_rfl) (PQ.next (PQ.block (PQ.next (PQ.next (PQ.block (PQ.next PQ.body)))))) ?_
      refine D.take 3 (y_hld x rfl Tb.ag30 Tb.sz30 rfl hx (fun w hs => hA w hs.fact)) rfl rfl rfl rfl (by kernel_rfl) (by kernel_rfl) (by kernel_rfl) (PQ.next (PQ.block (PQ.next (PQ.next (PQ.block (PQ.next PQ.body)))))) ?_
      refine D.take 6 (y_hidx i rfl Tryd.underlying22 Tb.sz30 rfl rfl rfl hm (by omega) (fun w hs => hB w hs.fact)) rfl rfl rfl rfl (by kernel_rfl) (by kernel_rfl) (by kernel_rfl) (PQ.next (PQ.block (PQ.next (PQ.next (PQ.block (PQ.next PQ.body)))))) ?_
      refine D.take 7 (y_hld y rfl Tb.ag30 Tb.sz30 rfl hy (fun w hs => hB w hs.fact)) rfl rfl rfl rfl (by kernel_rfl) (by kernel_rfl) (by kernel_rfl) (PQ.next (PQ.block (PQ.next (PQ.next (PQ.block (PQ.next PQ.body)))))) ?_
      refine D.take 8 (y_hne rfl Tryd.underlying30 Tryd.underlying5 Tb.ag5 Tb.sz5 Tb.eg30 rfl rfl) rfl rfl rfl rfl (by kernel_rfl) (by kernel_rfl) (by kernel_rfl) (PQ.next (PQ.block (PQ.next (PQ.next (PQ.block (PQ.next PQ.body)))))) ?_
      refine D.done (by kernel_rfl) ?_
      refine JQ.next hK11 ?_
      refine JC.condn rfl (fun h3 => ?_) (fun h3 => ?_)
      · have hne : a ≠ b := by
          rintro rfl
          rw [hx] at hy
          exact h3 (Option.some.inj hy)
        refine JC.seq fun K12 hK12 => ?_
        refine JC.region ?_
        refine J.yl (y_assign rfl rfl) rfl rfl rfl ?_
        refine J.nil ?_
        refine JQ.next hK12 ?_
        refine JC.ret ?_
        refine JQ.block_ret (JQ.then_ret (JQ.then_ret (JQ.block_ret (JQ.then_ret ?_))))
        exact ret1 rfl (r_tmp rfl) fun w hs => by rw [decide_eq_false hne]; exact Post.pure hs
      · have hxy : a.take (i + 1) = b.take (i + 1) := by rw [List.take_add_one, List.take_add_one, hab, hx, hy, h3]
        refine JC.skip ?_
        refine JQ.block_normal (JQ.next hK10 ?_)
        refine JC.region ?_
        refine J.yl (y_move rfl rfl) rfl rfl rfl ?_
        refine J.yl (y_add64 rfl rfl rfl (by omega)) rfl rfl rfl ?_
        refine J.yl (y_assign rfl rfl) rfl rfl rfl ?_
        refine J.nil ?_
        refine againK7 (i + 1) _ ⟨by omega, hxy⟩ (by omega) (okE_cons rfl okE_nil) (okE_cons rfl (okE_cons rfl okE_nil))
    · have hab' : a = b := by
        have h3 : i = n := by omega
        subst h3
        rwa [List.take_of_length_le (by omega), List.take_of_length_le (by omega)] at hab
      refine JC.exit ?_
      refine JQ.then_exit (JQ.then_exit (JQ.block_hit (JQ.next hK5 ?_)))
      refine JC.seq fun K13 hK13 => ?_
      refine JC.region ?_
      refine J.yl (y_assign rfl rfl) rfl rfl rfl ?_
      refine J.nil ?_
      refine JQ.next hK13 ?_
      refine JC.ret ?_
      exact ret1 rfl (r_tmp rfl) fun w hs => by rw [decide_eq_true hab']; exact Post.pure hs
end Go.Proofs.YtjkfeonbioccmaaDoor
