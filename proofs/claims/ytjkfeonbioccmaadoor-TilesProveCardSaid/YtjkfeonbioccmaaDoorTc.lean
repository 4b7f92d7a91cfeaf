/- Speculum proofs: contracts: roots, paths and proofs that tiles tell. -/
import Derived.Test.YtjkfeonbioccmaaDoorTa
import Derived.Test.YtjkfeonbioccmaaDoorFb
namespace Go.Proofs.YtjkfeonbioccmaaDoor
open Go Go.Sx Go.RowKit
set_option linter.unusedVariables false
set_option linter.unusedSimpArgs false
set_option maxRecDepth 100000
set_option maxHeartbeats 2000000
variable {Gl F : World → Prop}
theorem dvd_low {i q c : Nat} (h : i % 2 ^ c = 0) (hq : q ≤ c) : i % 2 ^ q = 0 := Nat.mod_eq_zero_of_dvd (Nat.dvd_trans (Nat.pow_dvd_pow 2 hq) (Nat.dvd_of_mod_eq_zero h))
theorem troot_fn (T m n : Nat) (es : Array MapEntry) (clock : Nat) (l : List H) (hM : Mp es (tile l)) (hn : l.length = n) (hN : n ≤ 4096) : ∀ (c i j : Nat) (a b : Int), i % 2 ^ c = 0 → i ≤ j → j - i ≤ 2 ^ c → j ≤ n → a = i → b = j → ∀ F : World → Prop, (∀ w, F w → Tt T m n es clock w) →
    PureFn Tryd.prog Gs 117 [.pointer (some ⟨T, 0, none⟩), .int .i64 a, .int .i64 b] F (hv (root (seg l i j))) := by
  intro c
  induction c using Nat.strongRecOn with
  | _ c ih =>
    intro i j a b hd h1 h2 h3 ha hb F hF
    subst ha; subst hb
    refine FnSpec.intro Tryd.func117 rfl Tryd.ntmps117 rfl fun X M w => ?_
    refine JC.seq fun K1 hK1 => ?_
    refine JC.region ?_
    refine J.alloc rfl rfl rfl rfl Tb.zz30 rfl fun g6 => ?_
    refine J.nil ?_
    refine JQ.next hK1 ?_
    refine JC.seq fun K2 hK2 => ?_
    refine JC.region ?_
    refine J.yl (y_move rfl rfl) rfl rfl rfl ?_
    refine J.yl (y_move rfl rfl) rfl rfl rfl ?_
    refine J.yl (y_sub64 rfl rfl rfl (by omega)) rfl rfl rfl ?_
    refine J.yl (y_assign rfl rfl) rfl rfl rfl ?_
    refine J.nil ?_
    refine JQ.next hK2 ?_
    refine JC.seq fun K3 hK3 => ?_
    refine JC.seq fun K4 hK4 => ?_
    refine JC.region ?_
    refine J.yl (y_move rfl rfl) rfl rfl rfl ?_
    refine J.yl (y_eq rfl rfl rfl) rfl rfl rfl ?_
    refine J.nil ?_
    refine JQ.next hK4 ?_
    refine JC.condp rfl (fun h4 => ?_) (fun h4 => ?_)
    · have hr : root (seg l i j) = root [] := by
        rw [List.eq_nil_of_length_eq_zero (l := seg l i j) (by rw [seg_len _ _ _ (by omega)]; omega)]
      refine JC.seq fun K5 hK5 => ?_
      refine JC.region ?_
      refine J.callv rfl rfl rfl rfl Tb.cl30 rfl (root_spec [] none 0 0 rfl (Nat.le_refl _) (by omega) (fun w h => .inl rfl)) ?_
      refine J.storeW 0 rfl rfl rfl rfl rfl rfl rfl Tb.sz30 (hcl _) (hcl _) (hc1 _) ?_
      refine J.nil ?_
      refine JQ.next hK5 ?_
      refine JC.ret ?_
      refine JQ.then_ret ?_
      exact ret1 rfl (r_cellA 0 rfl rfl Tb.ag30 (by rw [hcl]; exact Tb.sz30)) fun w hs => by rw [hr]; exact Post.pure hs
    · refine JC.skip ?_
      refine JQ.next hK3 ?_
      refine JC.seq fun K6 hK6 => ?_
      refine JC.region ?_
      refine J.yl (y_assign rfl rfl) rfl rfl rfl ?_
      refine J.yl (y_assign rfl rfl) rfl rfl rfl ?_
      refine J.nil ?_
      refine JQ.next hK6 ?_
      refine JC.seq fun K7 hK7 => ?_
      refine JC.block ?_
      refine JC.loopE (σ := Nat) (M := fun q => [(8, .int .i64 (q : Int)), (9, .int .i64 ((2 ^ q : Nat) : Int))]) (kp := [(0, _), (1, _), (2, _), (6, _), (7, _)]) (hkp := (okE_cons rfl (okE_cons rfl (okE_cons rfl (okE_cons rfl (okE_cons rfl okE_nil)))))) (Dc := fun _ => [.box g6 30 (hc H.zero)]) (H := fun _ => F) (Ψ := fun q => q = 0 ∨ 2 ^ (q - 1) < j - i) (μ := fun q => (j - i) - 2 ^ q) 0 (.inl rfl) (okE_cons rfl (okE_cons rfl okE_nil)) (fun w h => h) (fun q hq K8 againK8 => ?_)
      refine JC.seq fun K9 hK9 => ?_
      refine JC.seq fun K10 hK10 => ?_
      refine JC.region ?_
      refine J.yl (y_move rfl rfl) rfl rfl rfl ?_
      refine J.yl (y_move rfl rfl) rfl rfl rfl ?_
      refine J.yl (y_lt rfl rfl rfl) rfl rfl rfl ?_
      refine J.nil ?_
      refine JQ.next hK10 ?_
      have hp : 0 < 2 ^ q := Nat.pow_pos (by decide)
      have e2 : 2 ^ (q + 1) = 2 ^ q * 2 := Nat.pow_succ 2 q
      have hq12 : q ≤ 5000 := by
        rcases hq with rfl | hq
        · exact Nat.zero_le _
        · have := Nat.lt_two_pow_self (n := q - 1)
          omega
      refine JC.condp rfl (fun h5 => ?_) (fun h5 => ?_)
      · refine JC.skip ?_
        refine JQ.next hK9 ?_
        refine JC.block ?_
        refine JC.region ?_
        refine J.yl (y_move rfl rfl) rfl rfl rfl ?_
        refine J.yl (y_add64 rfl rfl rfl (by omega)) rfl rfl rfl ?_
        refine J.yl (y_move rfl rfl) rfl rfl rfl ?_
        refine J.yl (y_mul64 rfl rfl rfl (by omega)) rfl rfl rfl ?_
        refine J.yl (y_assign rfl rfl) rfl rfl rfl ?_
        refine J.yl (y_assign rfl rfl) rfl rfl rfl ?_
        refine J.nil ?_
        refine JQ.block_normal ?_
        refine againK8 (q + 1) _ (.inr (by rw [Nat.add_sub_cancel]; omega)) (by omega) (okE_cons (slotI (by omega)) (okE_cons (slotI (by omega)) okE_nil)) (okE_cons rfl (okE_cons rfl (okE_cons rfl (okE_cons rfl (okE_cons rfl okE_nil)))))
      · have hqc : q ≤ c := by
          rcases hq with rfl | hq
          · exact Nat.zero_le _
          · have : 2 ^ (q - 1) < 2 ^ c := by omega
            have := (Nat.pow_lt_pow_iff_right (show 1 < 2 by decide)).1 this
            omega
        refine JC.exit ?_
        refine JQ.then_exit (JQ.then_exit (JQ.block_hit (JQ.next hK7 ?_)))
        refine JC.seq fun K11 hK11 => ?_
        refine JC.seq fun K12 hK12 => ?_
        refine JC.region ?_
        refine J.yl (y_move rfl rfl) rfl rfl rfl ?_
        refine J.yl (y_move rfl rfl) rfl rfl rfl ?_
        refine J.yl (y_eq rfl rfl rfl) rfl rfl rfl ?_
        refine J.nil ?_
        refine JQ.next hK12 ?_
        refine JC.condp rfl (fun h6 => ?_) (fun h6 => ?_)
        · have hlook : tile l (q : Int) ((i : Int) / ((2 ^ q : Nat) : Int)) = some (root (seg l i j)) := by
            rw [← Int.natCast_ediv, root_whole l i q (dvd_low hd hqc) (by omega), show i + 2 ^ q = j by omega]
          have hdl := Nat.div_le_self i (2 ^ q)
          have hdi : (i : Int) / ((2 ^ q : Nat) : Int) = ((i / 2 ^ q : Nat) : Int) := (Int.natCast_ediv _ _).symm
          have hb64 : in64 ((i : Int) / ((2 ^ q : Nat) : Int)) := by
            generalize hdd : i / 2 ^ q = d at hdl hdi
            rw [hdi]
            exact ⟨by omega, by omega⟩
          refine JC.seq fun K13 hK13 => ?_
          refine JC.drawM [false] (by kernel_rfl) ?_
          refine D.take 0 (y_move rfl rfl) rfl rfl rfl rfl (by kernel_rfl) (by kernel_rfl) (by kernel_rfl) (PQ.next (PQ.next PQ.body)) ?_
          refine D.take 1 (y_nilp rfl rfl) rfl rfl rfl rfl (by kernel_rfl) (by kernel_rfl) (by kernel_rfl) (PQ.next (PQ.next PQ.body)) ?_
          refine D.take 2 (y_fb rfl Tb.fo57_0 rfl) rfl rfl rfl rfl (by kernel_rfl) (by kernel_rfl) (by kernel_rfl) (PQ.next (PQ.next PQ.body)) ?_
          refine D.take 4 (y_move rfl rfl) rfl rfl rfl rfl (by kernel_rfl) (by kernel_rfl) (by kernel_rfl) (PQ.next (PQ.next PQ.body)) ?_
          refine D.take 5 (y_move rfl rfl) rfl rfl rfl rfl (by kernel_rfl) (by kernel_rfl) (by kernel_rfl) (PQ.next (PQ.next PQ.body)) ?_
          refine D.take 6 (y_move rfl rfl) rfl rfl rfl rfl (by kernel_rfl) (by kernel_rfl) (by kernel_rfl) (PQ.next (PQ.next PQ.body)) ?_
          refine D.take 7 (y_quo64 rfl rfl rfl (by omega)) rfl rfl rfl rfl (by kernel_rfl) (by kernel_rfl) (by kernel_rfl) (PQ.next (PQ.next PQ.body)) ?_
          refine D.take 3 (y_load1 rfl Tb.ag55 rfl (fun w hs => cell_box (hF w hs.fact).1 rfl)) rfl rfl rfl rfl (by kernel_rfl) (by kernel_rfl) (by kernel_rfl) (PQ.next (PQ.next PQ.body)) ?_
          refine D.take 8 (y_buildA (cs := [.int .i64 (q : Int), .int .i64 ((i : Int) / ((2 ^ q : Nat) : Int))]) rfl Tryd.underlying38 Tb.zz38 Tb.sz3 rfl (fillK2 _ _)) rfl rfl rfl rfl (by kernel_rfl) (by kernel_rfl) (by kernel_rfl) (PQ.next (PQ.next PQ.body)) ?_
          refine D.take 9 ((y_look1 (a := (q : Int)) (b := (i : Int) / ((2 ^ q : Nat) : Int)) mkKey rfl Tryd.underlying55 Tb.zz30 rfl rfl ⟨by omega, by omega⟩ hb64 hM (fun w hs => (hF w hs.fact).2)).to (by rw [hlook])) rfl rfl rfl rfl (by kernel_rfl) (by kernel_rfl) (by kernel_rfl) (PQ.next (PQ.next PQ.body)) ?_
          refine D.ofJ 10 (by kernel_rfl) rfl fun KhK14 hK14 => ?_
          refine J.storeW 0 rfl rfl rfl rfl rfl rfl rfl Tb.sz30 (hcl _) (hcl _) (hc1 _) ?_
          refine J.nil ?_
          refine hK14 _ _ _ (fun w hs => hs.mask [false]) ?_
          refine D.done (by kernel_rfl) ?_
          refine JQ.next hK13 ?_
          refine JC.ret ?_
          refine JQ.then_ret ?_
          exact ret1 rfl (r_cellA 0 rfl rfl Tb.ag30 (by rw [hcl]; exact Tb.sz30)) fun w hs => Post.pure hs
        · have hq0 : q ≠ 0 := by
            rintro rfl
            simp only [Nat.pow_zero] at h5 h6
            omega
          obtain ⟨p, rfl⟩ := Nat.exists_eq_succ_of_ne_zero hq0
          have e3 : 2 ^ (p + 1) = 2 ^ p * 2 := Nat.pow_succ 2 p
          have hpp : 0 < 2 ^ p := Nat.pow_pos (by decide)
          have hlt : 2 ^ p < j - i := by
            rcases hq with hq | hq
            · omega
            · simpa using hq
          have hup : j - i < 2 ^ (p + 1) := by
            have h5' := h5; have h6' := h6
            simp only [Nat.succ_eq_add_one] at h5' h6'
            omega
          have hdp := dvd_low hd (show p ≤ c by omega)
          have hrp := root_parts l i j p (by omega) (by omega) (by omega)
          refine JC.skip ?_
          refine JQ.next hK11 ?_
          refine JC.seq fun K15 hK15 => ?_
          refine JC.region ?_
          refine J.yl (y_move rfl rfl) rfl rfl rfl ?_
          refine J.yl (y_move rfl rfl) rfl rfl rfl ?_
          refine J.yl (y_move rfl rfl) rfl rfl rfl ?_
          refine J.yl (y_move rfl rfl) rfl rfl rfl ?_
          refine J.yl (y_quo64 rfl rfl rfl (by omega)) rfl rfl rfl ?_
          refine J.yl (y_add64 rfl rfl rfl (by omega)) rfl rfl rfl ?_
          refine J.callv rfl rfl rfl rfl Tb.cl117 rfl (ih p (by omega) i (i + 2 ^ p) _ _ hdp (by omega) (by omega) (by omega) rfl (by simp only [Nat.succ_eq_add_one]; omega) _ (fun w h => hF w h.1)) ?_
          refine J.yl (y_move rfl rfl) rfl rfl rfl ?_
          refine J.yl (y_move rfl rfl) rfl rfl rfl ?_
          refine J.yl (y_move rfl rfl) rfl rfl rfl ?_
          refine J.yl (y_quo64 rfl rfl rfl (by omega)) rfl rfl rfl ?_
          refine J.yl (y_add64 rfl rfl rfl (by omega)) rfl rfl rfl ?_
          refine J.yl (y_move rfl rfl) rfl rfl rfl ?_
          refine J.callv rfl rfl rfl rfl Tb.cl117 rfl (ih p (by omega) (i + 2 ^ p) j _ _ (by rw [Nat.add_mod_right]; exact hdp) (by omega) (by omega) (by omega) (by simp only [Nat.succ_eq_add_one]; omega) rfl _ (fun w h => hF w h.1)) ?_
          refine J.callv rfl rfl rfl rfl Tb.cl105 rfl (node_spec _ _) ?_
          refine J.storeW 0 rfl rfl rfl rfl rfl rfl rfl Tb.sz30 (hcl _) (hcl _) (hc1 _) ?_
          refine J.nil ?_
          refine JQ.next hK15 ?_
          refine JC.ret ?_
          exact ret1 rfl (r_cellA 0 rfl rfl Tb.ag30 (by rw [hcl]; exact Tb.sz30)) fun w hs => by rw [hrp]; exact Post.pure hs
def trt (l : List H) (z : Int) : H := if z < 0 ∨ (l.length : Int) < z then H.zero else root (l.take z.toNat)
theorem tRoot_fn (T m n : Nat) (es : Array MapEntry) (clock : Nat) (l : List H) (hM : Mp es (tile l)) (hn : l.length = n) (hN : n ≤ 4096) (z : Int) (hF : ∀ w, F w → Tt T m n es clock w) :
    PureFn Tryd.prog Gs 35 [.pointer (some ⟨T, 0, none⟩), .int .i64 z] F (.tuple #[hv (trt l z), .int .i64 (wthE n z)]) := by
  refine FnSpec.intro Tryd.func35 rfl Tryd.ntmps35 rfl fun X M w => ?_
  refine JC.seq fun K1 hK1 => ?_
  refine JC.region ?_
  refine J.alloc rfl rfl rfl rfl Tb.zz30 rfl fun g4 => ?_
  refine J.yl (y_assign rfl rfl) rfl rfl rfl ?_
  refine J.nil ?_
  refine JQ.next hK1 ?_
  refine JC.seq fun K2 hK2 => ?_
  refine JC.seq fun K3 hK3 => ?_
  refine JC.region ?_
  refine J.yl (y_move rfl rfl) rfl rfl rfl ?_
  refine J.yl (y_move rfl rfl) rfl rfl rfl ?_
  refine J.callv rfl rfl rfl rfl Tb.cl116 rfl (within_fn T m n es clock z (fun w h => hF w h.1)) ?_
  refine J.yl (y_assign rfl rfl) rfl rfl rfl ?_
  refine J.nil ?_
  refine JQ.next hK3 ?_
  refine JC.seq fun K4 hK4 => ?_
  refine JC.region ?_
  refine J.yl (y_move rfl rfl) rfl rfl rfl ?_
  refine J.yl (y_ne rfl rfl rfl) rfl rfl rfl ?_
  refine J.nil ?_
  refine JQ.next hK4 ?_
  refine JC.condn rfl (fun h1 => ?_) (fun h1 => ?_)
  · have hbad : z < 0 ∨ (n : Int) < z := by
      by_cases h : z < 0 ∨ (n : Int) < z
      · exact h
      · exact absurd (if_neg h) h1
    have ht : trt l z = H.zero := if_pos (by rw [hn]; exact hbad)
    refine JC.seq fun K5 hK5 => ?_
    refine JC.region ?_
    refine J.yl (y_buildA (cs := hc H.zero) rfl Tryd.underlying30 Tb.zz30 Tb.sz5 rfl rfl) rfl rfl rfl ?_
    refine J.yl (y_move rfl rfl) rfl rfl rfl ?_
    refine J.storeW 0 rfl rfl rfl rfl rfl rfl rfl Tb.sz30 (hcl _) (hcl _) (hc1 _) ?_
    refine J.yl (y_assign rfl rfl) rfl rfl rfl ?_
    refine J.nil ?_
    refine JQ.next hK5 ?_
    refine JC.ret ?_
    refine JQ.then_ret ?_
    exact ret2 rfl (r_cellA 0 rfl rfl Tb.ag30 (by rw [hcl]; exact Tb.sz30)) (r_tmp rfl) fun w hs => by rw [ht]; exact Post.pure hs
  · have hok : ¬ (z < 0 ∨ (n : Int) < z) := fun h => by
      have : wthE n z = 82 := if_pos h
      rw [this] at h1; exact absurd h1 (by decide)
    have ht : trt l z = root (seg l 0 z.toNat) := by
      rw [trt, if_neg (by rw [hn]; exact hok), seg, List.drop_zero]
    have h1 : wthE n z = 0 := if_neg hok
    refine JC.skip ?_
    refine JQ.next hK2 ?_
    refine JC.seq fun K6 hK6 => ?_
    refine JC.region ?_
    refine J.yl (y_move rfl rfl) rfl rfl rfl ?_
    refine J.yl (y_move rfl rfl) rfl rfl rfl ?_
    refine J.callv rfl rfl rfl rfl Tb.cl117 rfl (troot_fn T m n es clock l hM hn hN 12 0 z.toNat 0 z rfl (Nat.zero_le _) (by have : (2 : Nat) ^ 12 = 4096 := rfl; omega) (by omega) rfl (by omega) _ (fun w h => hF w h.1)) ?_
    refine J.storeW 0 rfl rfl rfl rfl rfl rfl rfl Tb.sz30 (hcl _) (hcl _) (hc1 _) ?_
    refine J.yl (y_assign rfl rfl) rfl rfl rfl ?_
    refine J.nil ?_
    refine JQ.next hK6 ?_
    refine JC.ret ?_
    exact ret2 rfl (r_cellA 0 rfl rfl Tb.ag30 (by rw [hcl]; exact Tb.sz30)) (r_tmp rfl) fun w hs => by rw [ht, h1]; exact Post.pure hs
def tpth (l : List H) (i z : Int) : List H := if z < 0 ∨ (l.length : Int) < z ∨ i < 0 ∨ z ≤ i then [] else path (l.take z.toNat) i.toNat
def tpthE (l : List H) (i z : Int) : Int := if z < 0 ∨ (l.length : Int) < z ∨ i < 0 ∨ z ≤ i then 82 else 0
end Go.Proofs.YtjkfeonbioccmaaDoor
