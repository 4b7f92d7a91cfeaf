/- Speculum proofs: contracts: tiles of leaves. -/
import Derived.Test.YtjkfeonbioccmaaDoorTf
namespace Go.Proofs.YtjkfeonbioccmaaDoor
open Go Go.Sx Go.RowKit
set_option linter.unusedVariables false
set_option linter.unusedSimpArgs false
set_option maxRecDepth 100000
set_option maxHeartbeats 2000000
variable {Gl F : World → Prop}
theorem of_fn (l : List H) (A : Option Addr) (n k : Nat) (hn : l.length = n) (hk : n ≤ k) (hN : n ≤ 4096) (hA : ∀ w, F w → Sl w A (hcs l)) :
    FnSpec Tryd.prog Gs 32 [.slice A n k] [] F (ι := Nat × Nat × Array MapEntry × Nat) (fun q => Mp q.2.2.1 (tile l)) (fun q => .tuple #[.pointer (some ⟨q.1, 0, none⟩), .bool true]) (fun q => Tc q.1 q.2.1 n q.2.2.1 q.2.2.2) (fun _ _ => True) := by
  refine FnSpec.intro Tryd.func32 rfl Tryd.ntmps32 rfl fun X M w => ?_
  refine JC.seq fun K1 hK1 => ?_
  refine JC.region ?_
  refine J.yl (y_assign rfl rfl) rfl rfl rfl ?_
  refine J.yl (y_assign rfl rfl) rfl rfl rfl ?_
  refine J.nil ?_
  refine JQ.next hK1 ?_
  refine JC.seq fun K2 hK2 => ?_
  refine JC.region ?_
  refine J.callR (Cin := []) rfl rfl rfl rfl Tb.cl41 rfl rfl (tnew_fn) ?_
  rintro ⟨T, m⟩ _
  refine J.yl (y_assign rfl rfl) rfl rfl rfl ?_
  refine J.nil ?_
  refine JQ.next hK2 ?_
  refine JC.seq fun K3 hK3 => ?_
  refine JC.seq fun K4 hK4 => ?_
  refine JC.region ?_
  refine J.yl (y_assign rfl rfl) rfl rfl rfl ?_
  refine J.nil ?_
  refine JQ.next hK4 ?_
  refine JC.block ?_
  refine JC.loopE (σ := Nat × Array MapEntry × Nat) (M := fun q => [(5, .int .i64 (q.1 : Int))]) (kp := [(0, _), (4, _)]) (hkp := (okE_cons rfl (okE_cons rfl okE_nil))) (Dc := fun q => Tc T m q.1 q.2.1 q.2.2) (H := fun _ => F) (Ψ := fun q => q.1 ≤ n ∧ Mp q.2.1 (tile (l.take q.1))) (μ := fun q => n - q.1) (0, #[], 0) ⟨Nat.zero_le _, Mp.nil.to fun a b => (tile_nil a b).symm⟩ (okE_cons rfl okE_nil) (fun w h => h) (fun sK5 hK5 K5 againK5 => ?_)
  obtain ⟨i, es, clock⟩ := sK5
  dsimp only at hK5 againK5 ⊢
  obtain ⟨hi, hM⟩ := hK5
  refine JC.seq fun K6 hK6 => ?_
  refine JC.seq fun K7 hK7 => ?_
  refine JC.region ?_
  refine J.yl (y_move rfl rfl) rfl rfl rfl ?_
  refine J.yl (y_move rfl rfl) rfl rfl rfl ?_
  refine J.yl (y_len rfl Tryd.underlying22 rfl) rfl rfl rfl ?_
  refine J.yl (y_lt rfl rfl rfl) rfl rfl rfl ?_
  refine J.nil ?_
  refine JQ.next hK7 ?_
  refine JC.condp rfl (fun h1 => ?_) (fun h1 => ?_)
  · obtain ⟨x, hx⟩ : ∃ x, l[i]? = some x := ⟨_, List.getElem?_eq_getElem (show i < l.length by omega)⟩
    have hl : (l.take i).length = i := by rw [List.length_take]; omega
    have hsn : addL (l.take i) x = l.take (i + 1) := by
      rw [addL, if_neg (by omega), List.take_add_one, hx]; rfl
    have hE : addE (l.take i) = 0 := if_neg (by omega)
    refine JC.skip ?_
    refine JQ.next hK6 ?_
    refine JC.seq fun K8 hK8 => ?_
    refine JC.block ?_
    refine JC.seq fun K9 hK9 => ?_
    refine JC.region ?_
    refine J.yl (y_move rfl rfl) rfl rfl rfl ?_
    refine J.yl (y_move rfl rfl) rfl rfl rfl ?_
    refine J.yl (y_move rfl rfl) rfl rfl rfl ?_
    refine J.yl (y_hidx i rfl Tryd.underlying22 Tb.sz30 rfl rfl rfl hn (by omega) (fun w hs => hA w hs.fact)) rfl rfl rfl ?_
    refine J.yl (y_hld x rfl Tb.ag30 Tb.sz30 rfl hx (fun w hs => hA w hs.fact)) rfl rfl rfl ?_
    refine J.callR (Cin := [_, _]) rfl rfl rfl rfl Tb.cl42 rfl rfl (tadd_fnE T m i es clock (l.take i) x hM hl (l.take (i + 1)) (i + 1) 0 hsn (by rw [List.length_take]; omega) hE) ?_
    rintro ⟨es2, clock2⟩ hM2
    refine J.yl (y_ne rfl rfl rfl) rfl rfl rfl ?_
    refine J.nil ?_
    refine JQ.next hK9 ?_
    refine JC.condn rfl (fun h2 => ?_) (fun h2 => ?_)
    · exact absurd rfl h2
    · refine JC.skip ?_
      refine JQ.block_normal (JQ.next hK8 ?_)
      refine JC.region ?_
      refine J.yl (y_move rfl rfl) rfl rfl rfl ?_
      refine J.yl (y_add64 rfl rfl rfl (by omega)) rfl rfl rfl ?_
      refine J.yl (y_assign rfl rfl) rfl rfl rfl ?_
      refine J.nil ?_
      refine againK5 (i + 1, es2, clock2) _ ⟨by dsimp only; omega, hM2⟩ (by dsimp only; omega) (okE_cons (slotI (by dsimp only; omega)) okE_nil) (okE_cons rfl (okE_cons rfl okE_nil))
  · obtain rfl : i = n := by omega
    have hM : Mp es (tile l) := by have := hM; rwa [List.take_of_length_le (by omega)] at this
    refine JC.exit ?_
    refine JQ.then_exit (JQ.then_exit (JQ.block_hit (JQ.next hK3 ?_)))
    refine JC.seq fun K10 hK10 => ?_
    refine JC.region ?_
    refine J.yl (y_move rfl rfl) rfl rfl rfl ?_
    refine J.yl (y_move rfl rfl) rfl rfl rfl ?_
    refine J.callv rfl rfl rfl rfl Tb.cl43 rfl (size_fn T m i es clock (fun w h => tt_of 0 1 rfl rfl h.2)) ?_
    refine J.yl (y_move rfl rfl) rfl rfl rfl ?_
    refine J.yl (y_len rfl Tryd.underlying22 rfl) rfl rfl rfl ?_
    refine J.yl (y_eq rfl rfl rfl) rfl rfl rfl ?_
    refine J.yl (y_assign rfl rfl) rfl rfl rfl ?_
    refine J.yl (y_assign rfl rfl) rfl rfl rfl ?_
    refine J.nil ?_
    refine JQ.next hK10 ?_
    refine JC.ret ?_
    exact ret2 rfl (r_tmp rfl) (r_tmp rfl) fun w hs => by rw [decide_eq_true rfl]; exact Post.of_st hs (T, m, es, clock) hM (List.Sublist.refl _) fun _ _ => trivial
/-- The document's root of a beginning. -/
theorem r14root_fn (l : List H) (z : Int) (A : Option Addr) (n k : Nat) (hn : l.length = n) (hk : n ≤ k) (hN : n ≤ 4096) (hA : ∀ w, F w → Sl w A (hcs l)) :
    PureFn Tryd.prog Gl 36 [.slice A n k, .int .i64 z] F (.tuple #[hv (trt l z), .int .i64 (wthE n z)]) := by
  have hbad : z < 0 ∨ (n : Int) < z → trt l z = H.zero ∧ wthE n z = 82 := fun h => ⟨if_pos (by rw [hn]; exact h), if_pos h⟩
  refine FnSpec.intro Tryd.func36 rfl Tryd.ntmps36 rfl fun X M w => ?_
  refine JC.seq fun K1 hK1 => ?_
  refine JC.region ?_
  refine J.alloc rfl rfl rfl rfl Tb.zz30 rfl fun g4 => ?_
  refine J.yl (y_assign rfl rfl) rfl rfl rfl ?_
  refine J.nil ?_
  refine JQ.next hK1 ?_
  refine JC.seq fun K2 hK2 => ?_
  refine JC.seq fun K3 hK3 => ?_
  refine JC.region ?_
  refine J.yl (y_move rfl rfl) rfl rfl rfl ?_
  refine J.ylp (y_lt rfl rfl rfl) rfl rfl rfl (fun h1 => ?_) (fun h1 => ?_)
  · obtain ⟨hb1, hb2⟩ := hbad (by omega)
    refine J.yl (y_move rfl rfl) rfl rfl rfl ?_
    refine J.gno (b := true) rfl rfl rfl rfl rfl rfl ?_
    refine J.gno (b := true) rfl rfl rfl rfl rfl rfl ?_
    refine J.gno (b := true) rfl rfl rfl rfl rfl rfl ?_
    refine J.gno (b := true) rfl rfl rfl rfl rfl rfl ?_
    refine J.yl (y_pick rfl rfl (fun _ => rfl) (fun h => by cases h)) rfl rfl rfl ?_
    refine J.nil ?_
    refine JQ.next hK3 ?_
    refine JC.yes rfl ?_
    refine JC.seq fun K4 hK4 => ?_
    refine JC.region ?_
    refine J.yl (y_buildA (cs := hc H.zero) rfl Tryd.underlying30 Tb.zz30 Tb.sz5 rfl rfl) rfl rfl rfl ?_
    refine J.storeW 0 rfl rfl rfl rfl rfl rfl rfl Tb.sz30 (hcl _) (hcl _) (hc1 _) ?_
    refine J.yl (y_assign rfl rfl) rfl rfl rfl ?_
    refine J.nil ?_
    refine JQ.next hK4 ?_
    refine JC.ret ?_
    refine JQ.then_ret ?_
    exact ret2 rfl (r_cellA 0 rfl rfl Tb.ag30 (by rw [hcl]; exact Tb.sz30)) (r_tmp rfl) fun w hs => by rw [hb1, hb2]; exact Post.pure hs
  · refine J.yl (y_move rfl rfl) rfl rfl rfl ?_
    refine J.gyes (y_move rfl rfl) rfl rfl rfl rfl rfl rfl ?_
    refine J.gyes (y_move rfl rfl) rfl rfl rfl rfl rfl rfl ?_
    refine J.gyes (y_len rfl Tryd.underlying22 rfl) rfl rfl rfl rfl rfl rfl ?_
    refine J.gyes (y_gt rfl rfl rfl) rfl rfl rfl rfl rfl rfl ?_
    refine J.yl (y_pick rfl rfl (fun h => by cases h) (fun _ => rfl)) rfl rfl rfl ?_
    refine J.nil ?_
    refine JQ.next hK3 ?_
    refine JC.condp rfl (fun h2 => ?_) (fun h2 => ?_)
    · obtain ⟨hb1, hb2⟩ := hbad (by omega)
      refine JC.seq fun K5 hK5 => ?_
      refine JC.region ?_
      refine J.yl (y_buildA (cs := hc H.zero) rfl Tryd.underlying30 Tb.zz30 Tb.sz5 rfl rfl) rfl rfl rfl ?_
      refine J.storeW 0 rfl rfl rfl rfl rfl rfl rfl Tb.sz30 (hcl _) (hcl _) (hc1 _) ?_
      refine J.yl (y_assign rfl rfl) rfl rfl rfl ?_
      refine J.nil ?_
      refine JQ.next hK5 ?_
      refine JC.ret ?_
      refine JQ.then_ret ?_
      exact ret2 rfl (r_cellA 0 rfl rfl Tb.ag30 (by rw [hcl]; exact Tb.sz30)) (r_tmp rfl) fun w hs => by rw [hb1, hb2]; exact Post.pure hs
    · obtain ⟨z, rfl⟩ : ∃ q : Nat, z = q := ⟨z.toNat, by omega⟩
      have ht : trt l z = root (l.take z) := by rw [trt, if_neg (by omega), Int.toNat_natCast]
      have hE : wthE n z = 0 := if_neg (by omega)
      refine JC.skip ?_
      refine JQ.next hK2 ?_
      refine JC.seq fun K6 hK6 => ?_
      refine JC.region ?_
      refine J.yl (y_move rfl rfl) rfl rfl rfl ?_
      refine J.yl (y_move rfl rfl) rfl rfl rfl ?_
      refine J.yl (y_cuttoN z rfl Tryd.underlying22 Tb.sz30 rfl rfl rfl (by omega)) rfl rfl rfl ?_
      refine J.callv rfl rfl rfl rfl Tb.cl86 rfl (rroot_spec (l.take z).length (l.take z) A z k (Nat.le_refl _) (by rw [List.length_take]; omega) (by omega) (by rw [List.length_take]; omega) _ (fun w h => (hA w h.1).htake z)) ?_
      refine J.storeW 0 rfl rfl rfl rfl rfl rfl rfl Tb.sz30 (hcl _) (hcl _) (hc1 _) ?_
      refine J.yl (y_assign rfl rfl) rfl rfl rfl ?_
      refine J.nil ?_
      refine JQ.next hK6 ?_
      refine JC.ret ?_
      exact ret2 rfl (r_cellA 0 rfl rfl Tb.ag30 (by rw [hcl]; exact Tb.sz30)) (r_tmp rfl) fun w hs => by rw [ht, hE]; exact Post.pure hs
/-- The document's proof. -/
theorem prf_tpf (l : List H) (i z : Nat) (hz : z ≤ l.length) (h : i ≤ z) : prf (l.take z) i = tpf l i z ∧ prfE (l.take z) i = tpfE l i z := by
  have hl : (l.take z).length = z := by rw [List.length_take]; omega
  constructor
  · unfold prf tpf
    rw [hl]
    by_cases h0 : i = 0
    · rw [if_pos (by omega), if_pos (by omega)]
    · rw [if_neg (by omega), if_neg (by omega), Int.toNat_natCast, Int.toNat_natCast]
  · unfold prfE tpfE
    rw [hl, if_neg (by omega), if_neg (by omega)]
theorem r14proof_fn (l : List H) (i z : Int) (A : Option Addr) (n k : Nat) (hn : l.length = n) (hk : n ≤ k) (hN : n ≤ 4096) (hA : ∀ w, F w → Sl w A (hcs l)) :
    FnSpec Tryd.prog Gl 40 [.slice A n k, .int .i64 i, .int .i64 z] [] F (ι := Option Addr × Nat) (fun q => (tpf l i z).length ≤ q.2) (fun q => .tuple #[.slice q.1 (tpf l i z).length q.2, .int .i64 (tpfE l i z)]) (OwnL (tpf l i z)) (fun _ _ => True) := by
  have hbad : z < 0 ∨ (n : Int) < z ∨ i < 0 ∨ z < i → tpf l i z = [] ∧ tpfE l i z = 82 := fun h => ⟨if_pos (by rw [hn]; omega), if_pos (by rw [hn]; exact h)⟩
  refine FnSpec.intro Tryd.func40 rfl Tryd.ntmps40 rfl fun X M w => ?_
  refine JC.seq fun K1 hK1 => ?_
  refine JC.region ?_
  refine J.yl (y_assign rfl rfl) rfl rfl rfl ?_
  refine J.yl (y_assign rfl rfl) rfl rfl rfl ?_
  refine J.nil ?_
  refine JQ.next hK1 ?_
  refine JC.seq fun K2 hK2 => ?_
  refine JC.seq fun K3 hK3 => ?_
  refine JC.region ?_
  refine J.yl (y_move rfl rfl) rfl rfl rfl ?_
  refine J.ylp (y_lt rfl rfl rfl) rfl rfl rfl (fun h1 => ?_) (fun h1 => ?_)
  · obtain ⟨hb1, hb2⟩ := hbad (by omega)
    refine J.yl (y_move rfl rfl) rfl rfl rfl ?_
    refine J.gno (b := true) rfl rfl rfl rfl rfl rfl ?_
    refine J.gno (b := true) rfl rfl rfl rfl rfl rfl ?_
    refine J.gno (b := true) rfl rfl rfl rfl rfl rfl ?_
    refine J.gno (b := true) rfl rfl rfl rfl rfl rfl ?_
    refine J.yl (y_pick rfl rfl (fun _ => rfl) (fun h => by cases h)) rfl rfl rfl ?_
    refine J.yl (y_move rfl rfl) rfl rfl rfl ?_
    refine J.gno (b := true) rfl rfl rfl rfl rfl rfl ?_
    refine J.gno (b := true) rfl rfl rfl rfl rfl rfl ?_
    refine J.yl (y_pick rfl rfl (fun _ => rfl) (fun h => by cases h)) rfl rfl rfl ?_
    refine J.yl (y_move rfl rfl) rfl rfl rfl ?_
    refine J.gno (b := true) rfl rfl rfl rfl rfl rfl ?_
    refine J.gno (b := true) rfl rfl rfl rfl rfl rfl ?_
    refine J.gno (b := true) rfl rfl rfl rfl rfl rfl ?_
    refine J.yl (y_pick rfl rfl (fun _ => rfl) (fun h => by cases h)) rfl rfl rfl ?_
    refine J.nil ?_
    refine JQ.next hK3 ?_
    refine JC.yes rfl ?_
    refine JC.seq fun K4 hK4 => ?_
    refine JC.region ?_
    refine J.yl (y_assign rfl rfl) rfl rfl rfl ?_
    refine J.yl (y_assign rfl rfl) rfl rfl rfl ?_
    refine J.nil ?_
    refine JQ.next hK4 ?_
    refine JC.ret ?_
    refine JQ.then_ret ?_
    refine JQ.st ?_ (fun w hs => hs.nilrow 30 32)
    exact ret2 rfl (r_tmp rfl) (r_tmp rfl) fun w hs => by rw [hb1, hb2]; exact Post.of_st hs (none, 0) (Nat.le_refl _) (List.Sublist.refl _) fun _ _ => trivial
  · refine J.yl (y_move rfl rfl) rfl rfl rfl ?_
    refine J.gyes (y_move rfl rfl) rfl rfl rfl rfl rfl rfl ?_
    refine J.gyes (y_move rfl rfl) rfl rfl rfl rfl rfl rfl ?_
    refine J.gyes (y_len rfl Tryd.underlying22 rfl) rfl rfl rfl rfl rfl rfl ?_
    refine J.ypG (y_gt rfl rfl rfl) rfl rfl rfl rfl rfl rfl (fun h2 => ?_) (fun h2 => ?_)
    · obtain ⟨hb1, hb2⟩ := hbad (by omega)
      refine J.yl (y_pick rfl rfl (fun h => by cases h) (fun _ => rfl)) rfl rfl rfl ?_
      refine J.yl (y_move rfl rfl) rfl rfl rfl ?_
      refine J.gno (b := true) rfl rfl rfl rfl rfl rfl ?_
      refine J.gno (b := true) rfl rfl rfl rfl rfl rfl ?_
      refine J.yl (y_pick rfl rfl (fun _ => rfl) (fun h => by cases h)) rfl rfl rfl ?_
      refine J.yl (y_move rfl rfl) rfl rfl rfl ?_
      refine J.gno (b := true) rfl rfl rfl rfl rfl rfl ?_
      refine J.gno (b := true) rfl rfl rfl rfl rfl rfl ?_
      refine J.gno (b := true) rfl rfl rfl rfl rfl rfl ?_
      refine J.yl (y_pick rfl rfl (fun _ => rfl) (fun h => by cases h)) rfl rfl rfl ?_
      refine J.nil ?_
      refine JQ.next hK3 ?_
      refine JC.yes rfl ?_
      refine JC.seq fun K5 hK5 => ?_
      refine JC.region ?_
      refine J.yl (y_assign rfl rfl) rfl rfl rfl ?_
      refine J.yl (y_assign rfl rfl) rfl rfl rfl ?_
      refine J.nil ?_
      refine JQ.next hK5 ?_
      refine JC.ret ?_
      refine JQ.then_ret ?_
      refine JQ.st ?_ (fun w hs => hs.nilrow 30 32)
      exact ret2 rfl (r_tmp rfl) (r_tmp rfl) fun w hs => by rw [hb1, hb2]; exact Post.of_st hs (none, 0) (Nat.le_refl _) (List.Sublist.refl _) fun _ _ => trivial
    · refine J.yl (y_pick rfl rfl (fun h => by cases h) (fun _ => rfl)) rfl rfl rfl ?_
      refine J.yl (y_move rfl rfl) rfl rfl rfl ?_
      refine J.gyes (y_move rfl rfl) rfl rfl rfl rfl rfl rfl ?_
      refine J.ypG (y_lt rfl rfl rfl) rfl rfl rfl rfl rfl rfl (fun h3 => ?_) (fun h3 => ?_)
      · obtain ⟨hb1, hb2⟩ := hbad (by omega)
        refine J.yl (y_pick rfl rfl (fun h => by cases h) (fun _ => rfl)) rfl rfl rfl ?_
        refine J.yl (y_move rfl rfl) rfl rfl rfl ?_
        refine J.gno (b := true) rfl rfl rfl rfl rfl rfl ?_
        refine J.gno (b := true) rfl rfl rfl rfl rfl rfl ?_
        refine J.gno (b := true) rfl rfl rfl rfl rfl rfl ?_
        refine J.yl (y_pick rfl rfl (fun _ => rfl) (fun h => by cases h)) rfl rfl rfl ?_
        refine J.nil ?_
        refine JQ.next hK3 ?_
        refine JC.yes rfl ?_
        refine JC.seq fun K6 hK6 => ?_
        refine JC.region ?_
        refine J.yl (y_assign rfl rfl) rfl rfl rfl ?_
        refine J.yl (y_assign rfl rfl) rfl rfl rfl ?_
        refine J.nil ?_
        refine JQ.next hK6 ?_
        refine JC.ret ?_
        refine JQ.then_ret ?_
        refine JQ.st ?_ (fun w hs => hs.nilrow 30 32)
        exact ret2 rfl (r_tmp rfl) (r_tmp rfl) fun w hs => by rw [hb1, hb2]; exact Post.of_st hs (none, 0) (Nat.le_refl _) (List.Sublist.refl _) fun _ _ => trivial
      · refine J.yl (y_pick rfl rfl (fun h => by cases h) (fun _ => rfl)) rfl rfl rfl ?_
        refine J.yl (y_move rfl rfl) rfl rfl rfl ?_
        refine J.gyes (y_move rfl rfl) rfl rfl rfl rfl rfl rfl ?_
        refine J.gyes (y_move rfl rfl) rfl rfl rfl rfl rfl rfl ?_
        refine J.gyes (y_gt rfl rfl rfl) rfl rfl rfl rfl rfl rfl ?_
        refine J.yl (y_pick rfl rfl (fun h => by cases h) (fun _ => rfl)) rfl rfl rfl ?_
        refine J.nil ?_
        refine JQ.next hK3 ?_
        refine JC.condp rfl (fun h4 => ?_) (fun h4 => ?_)
        · obtain ⟨hb1, hb2⟩ := hbad (by omega)
          refine JC.seq fun K7 hK7 => ?_
          refine JC.region ?_
          refine J.yl (y_assign rfl rfl) rfl rfl rfl ?_
          refine J.yl (y_assign rfl rfl) rfl rfl rfl ?_
          refine J.nil ?_
          refine JQ.next hK7 ?_
          refine JC.ret ?_
          refine JQ.then_ret ?_
          refine JQ.st ?_ (fun w hs => hs.nilrow 30 32)
          exact ret2 rfl (r_tmp rfl) (r_tmp rfl) fun w hs => by rw [hb1, hb2]; exact Post.of_st hs (none, 0) (Nat.le_refl _) (List.Sublist.refl _) fun _ _ => trivial
        · obtain ⟨z, rfl⟩ : ∃ q : Nat, z = q := ⟨z.toNat, by omega⟩
          obtain ⟨i, rfl⟩ : ∃ q : Nat, i = q := ⟨i.toNat, by omega⟩
          obtain ⟨hp1, hp2⟩ := prf_tpf l i z (by omega) (by omega)
          refine JC.skip ?_
          refine JQ.next hK2 ?_
          refine JC.seq fun K8 hK8 => ?_
          refine JC.region ?_
          refine J.yl (y_move rfl rfl) rfl rfl rfl ?_
          refine J.yl (y_move rfl rfl) rfl rfl rfl ?_
          refine J.yl (y_cuttoN z rfl Tryd.underlying22 Tb.sz30 rfl rfl rfl (by omega)) rfl rfl rfl ?_
          refine J.yl (y_move rfl rfl) rfl rfl rfl ?_
          refine J.callR (Cin := []) rfl rfl rfl rfl Tb.cl25 rfl rfl (rproof_fn (l.take z) i A z k (by rw [List.length_take]; omega) (by omega) (by omega) (fun w h => (hA w h.1).htake z)) ?_
          rintro ⟨A2, k2⟩ ⟨hk2, _⟩
          refine J.yl (y_extract rfl rfl rfl) rfl rfl rfl ?_
          refine J.yl (y_extract rfl rfl rfl) rfl rfl rfl ?_
          refine J.yl (y_assign rfl rfl) rfl rfl rfl ?_
          refine J.yl (y_assign rfl rfl) rfl rfl rfl ?_
          refine J.nil ?_
          refine JQ.next hK8 ?_
          refine JC.ret ?_
          exact ret2 rfl (r_tmp rfl) (r_tmp rfl) fun w hs => by rw [← hp1, ← hp2]; exact Post.of_st hs (A2, k2) hk2 (List.Sublist.refl _) fun _ _ => trivial
theorem r06path_fn : ∀ (N : Nat) (l : List H) (i : Nat) (A : Option Addr) (n k : Nat), n ≤ N → i < n → l.length = n → n ≤ k → N ≤ 1000000 → ∀ F : World → Prop, (∀ w, F w → Sl w A (hcs l)) →
    FnSpec Tryd.prog Gl 118 [.slice A n k, .int .i64 (i : Int)] [] F (ι := Option Addr × Nat) (fun q => (path l i).length ≤ q.2 ∧ (path l i).length ≤ n) (fun q => .tuple #[.slice q.1 (path l i).length q.2, .int .i64 0]) (OwnL (path l i)) (fun _ _ => True) := by
  intro N
  induction N with
  | zero => intro l i A n k h0 h1; omega
  | succ N ih =>
    intro l i A n k h0 h1 hn hk hM F hA
    refine FnSpec.intro Tryd.func118 rfl Tryd.ntmps118 rfl fun X M w => ?_
    refine JC.seq fun K1 hK1 => ?_
    refine JC.region ?_
    refine J.yl (y_assign rfl rfl) rfl rfl rfl ?_
    refine J.yl (y_assign rfl rfl) rfl rfl rfl ?_
    refine J.nil ?_
    refine JQ.next hK1 ?_
    refine JC.seq fun K2 hK2 => ?_
    refine JC.seq fun K3 hK3 => ?_
    refine JC.region ?_
    refine J.yl (y_move rfl rfl) rfl rfl rfl ?_
    refine J.yl ((y_lt rfl rfl rfl).to (v' := .bool false) (by rw [decide_eq_false (by omega)])) rfl rfl rfl ?_
    refine J.yl (y_move rfl rfl) rfl rfl rfl ?_
    refine J.gyes (y_move rfl rfl) rfl rfl rfl rfl rfl rfl ?_
    refine J.gyes (y_move rfl rfl) rfl rfl rfl rfl rfl rfl ?_
    refine J.gyes (y_len rfl Tryd.underlying22 rfl) rfl rfl rfl rfl rfl rfl ?_
    refine J.gyes (y_ge rfl rfl rfl) rfl rfl rfl rfl rfl rfl ?_
    refine J.yl (y_pick rfl rfl (fun h => by cases h) (fun _ => rfl)) rfl rfl rfl ?_
    refine J.nil ?_
    refine JQ.next hK3 ?_
    refine JC.condp rfl (fun h2 => ?_) (fun h2 => ?_)
    · omega
    · refine JC.skip ?_
      refine JQ.next hK2 ?_
      refine JC.seq fun K4 hK4 => ?_
      refine JC.seq fun K5 hK5 => ?_
      refine JC.region ?_
      refine J.yl (y_move rfl rfl) rfl rfl rfl ?_
      refine J.yl (y_len rfl Tryd.underlying22 rfl) rfl rfl rfl ?_
      refine J.yl (y_eq rfl rfl rfl) rfl rfl rfl ?_
      refine J.nil ?_
      refine JQ.next hK5 ?_
      refine JC.condp rfl (fun h3 => ?_) (fun h3 => ?_)
      · have hp : path l i = [] := path_one _ _ (by omega)
        refine JC.seq fun K6 hK6 => ?_
        refine JC.region ?_
        refine J.yl (y_assign rfl rfl) rfl rfl rfl ?_
        refine J.yl (y_assign rfl rfl) rfl rfl rfl ?_
        refine J.nil ?_
        refine JQ.next hK6 ?_
        refine JC.ret ?_
        refine JQ.then_ret ?_
        refine JQ.st ?_ (fun w hs => hs.nilrow 30 32)
        exact ret2 rfl (r_tmp rfl) (r_tmp rfl) fun w hs => by rw [hp]; exact Post.of_st hs (none, 0) ⟨Nat.le_refl _, Nat.zero_le _⟩ (List.Sublist.refl _) fun _ _ => trivial
      · have h2l : 2 ≤ l.length := by omega
        have hs := split_spec h2l
        subst hn
        refine JC.skip ?_
        refine JQ.next hK4 ?_
        refine JC.seq fun K7 hK7 => ?_
        refine JC.region ?_
        refine J.yl (y_move rfl rfl) rfl rfl rfl ?_
        refine J.yl (y_len rfl Tryd.underlying22 rfl) rfl rfl rfl ?_
        refine J.callv rfl rfl rfl rfl Tb.cl145 rfl (rsplit_fn l.length _ rfl (by omega)) ?_
        refine J.yl (y_assign rfl rfl) rfl rfl rfl ?_
        refine J.nil ?_
        refine JQ.next hK7 ?_
        refine JC.seq fun K8 hK8 => ?_
        refine JC.seq fun K9 hK9 => ?_
        refine JC.region ?_
        refine J.yl (y_move rfl rfl) rfl rfl rfl ?_
        refine J.yl (y_move rfl rfl) rfl rfl rfl ?_
        refine J.yl (y_lt rfl rfl rfl) rfl rfl rfl ?_
        refine J.nil ?_
        refine JQ.next hK9 ?_
        refine JC.condp rfl (fun h4 => ?_) (fun h4 => ?_)
        · have hp := path_left l i h2l (by omega)
          have ht : (l.take (split l.length)).length = split l.length := by rw [List.length_take]; omega
          refine JC.seq fun K10 hK10 => ?_
          refine JC.region ?_
          refine J.yl (y_move rfl rfl) rfl rfl rfl ?_
          refine J.yl (y_move rfl rfl) rfl rfl rfl ?_
          refine J.yl (y_cuttoN (split l.length) rfl Tryd.underlying22 Tb.sz30 rfl rfl rfl (by omega)) rfl rfl rfl ?_
          refine J.yl (y_move rfl rfl) rfl rfl rfl ?_
          refine J.callR (Cin := []) rfl rfl rfl rfl Tb.cl118 rfl rfl (ih (l.take (split l.length)) i A (split l.length) k (by omega) (by omega) ht (by omega) (by omega) _ (fun w h => (hA w h.1).htake _)) ?_
          rintro ⟨A2, k2⟩ ⟨hk2, hl2⟩
          refine J.yl (y_move rfl rfl) rfl rfl rfl ?_
          refine J.yl (y_extract rfl rfl rfl) rfl rfl rfl ?_
          refine J.yl (y_extract rfl rfl rfl) rfl rfl rfl ?_
          refine J.yl (y_assign rfl rfl) rfl rfl rfl ?_
          refine J.yl (y_assign rfl rfl) rfl rfl rfl ?_
          refine J.nil ?_
          refine JQ.next hK10 ?_
          refine JC.seq fun K11 hK11 => ?_
          refine JC.region ?_
          refine J.yl (y_move rfl rfl) rfl rfl rfl ?_
          refine J.yl (y_move rfl rfl) rfl rfl rfl ?_
          refine J.yl (y_move rfl rfl) rfl rfl rfl ?_
          have hk2 : (path (l.take (split l.length)) i).length ≤ k2 := hk2
          generalize path (l.take (split l.length)) i = out at hk2 hl2 hp ⊢
          refine J.yl (y_cutfromN (split l.length) rfl Tryd.underlying22 Tb.sz30 rfl rfl rfl (by omega)) rfl rfl rfl ?_
          refine J.callv rfl rfl rfl rfl Tb.cl86 rfl (rroot_spec (l.drop (split l.length)).length (l.drop (split l.length)) _ _ _ (Nat.le_refl _) (by rw [List.length_drop]) (by omega) (by rw [List.length_drop]; omega) _ (fun w h => (hA w h.1).hdrop _ _ hk (by omega))) ?_
          refine J.bs1 rfl rfl rfl rfl rfl Tryd.underlying22 Tb.zz30 Tb.sz30 rfl (by decide) rfl (hcl _) fun g41 => ?_
          refine J.append 1 rfl rfl rfl rfl rfl rfl Tryd.underlying22 Tb.zz30 Tb.sz30 Tb.by30 rfl (by decide) rfl (by rw [hcl]) (fun w hs => .inr ⟨rfl, At.box (hs.get (i := 0) rfl)⟩) (hc1 _) (by omega) (by decide) (show _ = (out ++ [root (l.drop (split l.length))]).length by simp) (show _ = hcs (out ++ [root (l.drop (split l.length))]) by rw [hcs_append, hcs_one]) fun A k hAx hkx => ?_
          refine J.drop ?_
          refine J.yl (y_assign rfl rfl) rfl rfl rfl ?_
          refine J.yl (y_assign rfl rfl) rfl rfl rfl ?_
          refine J.nil ?_
          refine JQ.next hK11 ?_
          refine JC.ret ?_
          refine JQ.then_ret ?_
          exact ret2 rfl (r_tmp rfl) (r_tmp rfl) fun w hs => by rw [hp]; exact Post.of_st hs (A, k) ⟨hkx, by rw [List.length_append, List.length_singleton]; omega⟩ (List.Sublist.refl _) fun _ _ => trivial
        · have hp := path_right l i h2l (by omega)
          refine JC.skip ?_
          refine JQ.next hK8 ?_
          refine JC.seq fun K13 hK13 => ?_
          refine JC.region ?_
          refine J.yl (y_move rfl rfl) rfl rfl rfl ?_
          refine J.yl (y_move rfl rfl) rfl rfl rfl ?_
          refine J.yl (y_cutfromN (split l.length) rfl Tryd.underlying22 Tb.sz30 rfl rfl rfl (by omega)) rfl rfl rfl ?_
          refine J.yl (y_move rfl rfl) rfl rfl rfl ?_
          refine J.yl (y_move rfl rfl) rfl rfl rfl ?_
          refine J.yl (y_sub64 rfl rfl rfl (by omega)) rfl rfl rfl ?_
          rw [show ((i : Int) - (split l.length : Int)) = ((i - split l.length : Nat) : Int) by omega]
          refine J.callR (Cin := []) rfl rfl rfl rfl Tb.cl118 rfl rfl (ih (l.drop (split l.length)) (i - split l.length) _ (l.length - split l.length) _ (by omega) (by omega) (by rw [List.length_drop]) (by omega) (by omega) _ (fun w h => (hA w h.1).hdrop _ _ hk (by omega))) ?_
          rintro ⟨A2, k2⟩ ⟨hk2, hl2⟩
          refine J.yl (y_move rfl rfl) rfl rfl rfl ?_
          refine J.yl (y_extract rfl rfl rfl) rfl rfl rfl ?_
          refine J.yl (y_extract rfl rfl rfl) rfl rfl rfl ?_
          refine J.yl (y_assign rfl rfl) rfl rfl rfl ?_
          refine J.yl (y_assign rfl rfl) rfl rfl rfl ?_
          refine J.nil ?_
          refine JQ.next hK13 ?_
          refine JC.seq fun K14 hK14 => ?_
          refine JC.region ?_
          refine J.yl (y_move rfl rfl) rfl rfl rfl ?_
          refine J.yl (y_move rfl rfl) rfl rfl rfl ?_
          refine J.yl (y_move rfl rfl) rfl rfl rfl ?_
          have hk2 : (path (l.drop (split l.length)) (i - split l.length)).length ≤ k2 := hk2
          generalize path (l.drop (split l.length)) (i - split l.length) = out at hk2 hl2 hp ⊢
          refine J.yl (y_cuttoN (split l.length) rfl Tryd.underlying22 Tb.sz30 rfl rfl rfl (by omega)) rfl rfl rfl ?_
          refine J.callv rfl rfl rfl rfl Tb.cl86 rfl (rroot_spec (l.take (split l.length)).length (l.take (split l.length)) A (split l.length) _ (Nat.le_refl _) (by rw [List.length_take]; omega) (by omega) (by rw [List.length_take]; omega) _ (fun w h => (hA w h.1).htake _)) ?_
          refine J.bs1 rfl rfl rfl rfl rfl Tryd.underlying22 Tb.zz30 Tb.sz30 rfl (by decide) rfl (hcl _) fun g58 => ?_
          refine J.append 1 rfl rfl rfl rfl rfl rfl Tryd.underlying22 Tb.zz30 Tb.sz30 Tb.by30 rfl (by decide) rfl (by rw [hcl]) (fun w hs => .inr ⟨rfl, At.box (hs.get (i := 0) rfl)⟩) (hc1 _) (by omega) (by decide) (show _ = (out ++ [root (l.take (split l.length))]).length by simp) (show _ = hcs (out ++ [root (l.take (split l.length))]) by rw [hcs_append, hcs_one]) fun A k hAx hkx => ?_
          refine J.drop ?_
          refine J.yl (y_assign rfl rfl) rfl rfl rfl ?_
          refine J.yl (y_assign rfl rfl) rfl rfl rfl ?_
          refine J.nil ?_
          refine JQ.next hK14 ?_
          refine JC.ret ?_
          exact ret2 rfl (r_tmp rfl) (r_tmp rfl) fun w hs => by rw [hp]; exact Post.of_st hs (A, k) ⟨hkx, by rw [List.length_append, List.length_singleton]; omega⟩ (List.Sublist.refl _) fun _ _ => trivial
end Go.Proofs.YtjkfeonbioccmaaDoor
