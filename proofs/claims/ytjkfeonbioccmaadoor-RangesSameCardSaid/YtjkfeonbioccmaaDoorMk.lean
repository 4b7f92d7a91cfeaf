/- Speculum proofs: contracts: tiles of leaves. -/
/- Speculum proofs: contracts: the document's paths and nodes. -/
/- Speculum proofs: the chapter's leaves in tiles. -/
/- Speculum proofs: the chapter's leaves, told by tiles. -/
import Derived.Test.YtjkfeonbioccmaaDoorMj
import Derived.Test.YtjkfeonbioccmaaDoorMd
import Derived.Test.YtjkfeonbioccmaaDoorMi
namespace Go.Proofs.YtjkfeonbioccmaaDoor
open Go Go.Sx Go.RowKit
set_option linter.unusedVariables false
set_option linter.unusedSimpArgs false
set_option maxRecDepth 100000
set_option maxHeartbeats 2000000
variable {Gl F : World → Prop}
theorem of_fn (l : List H) (A : Option Addr) (n k : Nat) (hn : l.length = n) (hk : n ≤ k) (hN : n ≤ 4096) (hA : ∀ w, F w → Sl w A (hcs l)) :
    FnSpec Tryd.prog Gs 32 [.slice A n k] [] F (ι := Nat × Nat × Array MapEntry × Nat) (fun q => Mp q.2.2.1 (tile l)) (fun q => .tuple #[.pointer (some ⟨q.1, 0, none⟩), .bool true]) (fun q => Tc q.1 q.2.1 n q.2.2.1 q.2.2.2) (fun _ _ => True) := by
  refine FnSpec.intro Tryd.func32 rfl Tryd.ntmps32 rfl fun X M w => ?_
  refine JC.seq fun K1 hK1 => ?_
  refine JC.region ?_
  refine J.yl (y_assign rfl rfl) rfl rfl rfl ?_
  refine J.yl (y_assign rfl rfl) rfl rfl rfl ?_
  refine J.nil ?_
  refine JQ.next hK1 ?_
  refine JC.seq fun K2 hK2 => ?_
  refine JC.region ?_
  refine J.callR (Cin := []) rfl rfl rfl rfl Tb.cl41 rfl rfl (tnew_fn) ?_
  rintro ⟨T, m⟩ _
  refine J.yl (y_assign rfl rfl) rfl rfl rfl ?_
  refine J.nil ?_
  refine JQ.next hK2 ?_
  refine JC.seq fun K3 hK3 => ?_
  refine JC.seq fun K4 hK4 => ?_
  refine JC.region ?_
  refine J.yl (y_assign rfl rfl) rfl rfl rfl ?_
  refine J.nil ?_
  refine JQ.next hK4 ?_
  refine JC.block ?_
  refine JC.loopE (σ := Nat × Array MapEntry × Nat) (M := fun q => [(5, .int .i64 (q.1 : Int))]) (kp := [(0, _), (4, _)]) (hkp := (okE_cons rfl (okE_cons rfl okE_nil))) (Dc := fun q => Tc T m q.1 q.2.1 q.2.2) (H := fun _ => F) (Ψ := fun q => q.1 ≤ n ∧ Mp q.2.1 (tile (l.take q.1))) (μ := fun q => n - q.1) (0, #[], 0) ⟨Nat.zero_le _, Mp.nil.to fun a b => (tile_nil a b).symm⟩ (okE_cons rfl okE_nil) (fun w h => h) (fun sK5 hK5 K5 againK5 => ?_)
  obtain ⟨i, es, clock⟩ := sK5
  dsimp only at hK5 againK5 ⊢
  obtain ⟨hi, hM⟩ := hK5
  refine JC.seq fun K6 hK6 => ?_
  refine JC.seq fun K7 hK7 => ?_
  refine JC.region ?_
  refine J.yl (y_move rfl rfl) rfl rfl rfl ?_
  refine J.yl (y_move rfl rfl) rfl rfl rfl ?_
  refine J.yl (y_len rfl Tryd.underlying22 rfl) rfl rfl rfl ?_
  refine J.yl (y_lt rfl rfl rfl) rfl rfl rfl ?_
  refine J.nil ?_
  refine JQ.next hK7 ?_
  refine JC.condp rfl (fun h1 => ?_) (fun h1 => ?_)
  · obtain ⟨x, hx⟩ : ∃ x, l[i]? = some x := ⟨_, List.getElem?_eq_getElem (show i < l.length by omega)⟩
    have hl : (l.take i).length = i := by rw [List.length_take]; omega
    have hsn : addL (l.take i) x = l.take (i + 1) := by
      rw [addL, if_neg (by omega), List.take_add_one, hx]; rfl
    have hE : addE (l.take i) = 0 := if_neg (by omega)
    refine JC.skip ?_
    refine JQ.next hK6 ?_
    refine JC.seq fun K8 hK8 => ?_
    refine JC.block ?_
    refine JC.seq fun K9 hK9 => ?_
    refine JC.region ?_
    refine J.yl (y_move rfl rfl) rfl rfl rfl ?_
    refine J.yl (y_move rfl rfl) rfl rfl rfl ?_
    refine J.yl (y_move rfl rfl) rfl rfl rfl ?_
    refine J.yl (y_hidx i rfl Tryd.underlying22 Tb.sz30 rfl rfl rfl hn (by omega) (fun w hs => hA w hs.fact)) rfl rfl rfl ?_
    refine J.yl (y_hld x rfl Tb.ag30 Tb.sz30 rfl hx (fun w hs => hA w hs.fact)) rfl rfl rfl ?_
    refine J.callR (Cin := [_, _]) rfl rfl rfl rfl Tb.cl42 rfl rfl (tadd_fnE T m i es clock (l.take i) x hM hl (l.take (i + 1)) (i + 1) 0 hsn (by rw [List.length_take]; omega) hE) ?_
    rintro ⟨es2, clock2⟩ hM2
    refine J.yl (y_ne rfl rfl rfl) rfl rfl rfl ?_
    refine J.nil ?_
    refine JQ.next hK9 ?_
    refine JC.condn rfl (fun h2 => ?_) (fun h2 => ?_)
    · exact absurd rfl h2
    · refine JC.skip ?_
      refine JQ.block_normal (JQ.next hK8 ?_)
      refine JC.region ?_
      refine J.yl (y_move rfl rfl) rfl rfl rfl ?_
      refine J.yl (y_add64 rfl rfl rfl (by omega)) rfl rfl rfl ?_
      refine J.yl (y_assign rfl rfl) rfl rfl rfl ?_
      refine J.nil ?_
      refine againK5 (i + 1, es2, clock2) _ ⟨by dsimp only; omega, hM2⟩ (by dsimp only; omega) (okE_cons (slotI (by dsimp only; omega)) okE_nil) (okE_cons rfl (okE_cons rfl okE_nil))
  · obtain rfl : i = n := by omega
    have hM : Mp es (tile l) := by have := hM; rwa [List.take_of_length_le (by omega)] at this
    refine JC.exit ?_
    refine JQ.then_exit (JQ.then_exit (JQ.block_hit (JQ.next hK3 ?_)))
    refine JC.seq fun K10 hK10 => ?_
    refine JC.region ?_
    refine J.yl (y_move rfl rfl) rfl rfl rfl ?_
    refine J.yl (y_move rfl rfl) rfl rfl rfl ?_
    refine J.callv rfl rfl rfl rfl Tb.cl43 rfl (size_fn T m i es clock (fun w h => tt_of 0 1 rfl rfl h.2)) ?_
    refine J.yl (y_move rfl rfl) rfl rfl rfl ?_
    refine J.yl (y_len rfl Tryd.underlying22 rfl) rfl rfl rfl ?_
    refine J.yl (y_eq rfl rfl rfl) rfl rfl rfl ?_
    refine J.yl (y_assign rfl rfl) rfl rfl rfl ?_
    refine J.yl (y_assign rfl rfl) rfl rfl rfl ?_
    refine J.nil ?_
    refine JQ.next hK10 ?_
    refine JC.ret ?_
    exact ret2 rfl (r_tmp rfl) (r_tmp rfl) fun w hs => by rw [decide_eq_true rfl]; exact Post.of_st hs (T, m, es, clock) hM (List.Sublist.refl _) fun _ _ => trivial
/-- The document's root of a beginning. -/
theorem r14root_fn (l : List H) (z : Int) (A : Option Addr) (n k : Nat) (hn : l.length = n) (hk : n ≤ k) (hN : n ≤ 4096) (hA : ∀ w, F w → Sl w A (hcs l)) :
    PureFn Tryd.prog Gl 36 [.slice A n k, .int .i64 z] F (.tuple #[hv (trt l z), .int .i64 (wthE n z)]) := by
  have hbad : z < 0 ∨ (n : Int) < z → trt l z = H.zero ∧ wthE n z = 82 := fun h => ⟨if_pos (by rw [hn]; exact h), if_pos h⟩
  refine FnSpec.intro Tryd.func36 rfl Tryd.ntmps36 rfl fun X M w => ?_
  refine JC.seq fun K1 hK1 => ?_
  refine JC.region ?_
  refine J.alloc rfl rfl rfl rfl Tb.zz30 rfl fun g4 => ?_
  refine J.yl (y_assign rfl rfl) rfl rfl rfl ?_
  refine J.nil ?_
  refine JQ.next hK1 ?_
  refine JC.seq fun K2 hK2 => ?_
  refine JC.seq fun K3 hK3 => ?_
  refine JC.region ?_
  refine J.yl (y_move rfl rfl) rfl rfl rfl ?_
  refine J.ylp (y_lt rfl rfl rfl) rfl rfl rfl (fun h1 => ?_) (fun h1 => ?_)
  · obtain ⟨hb1, hb2⟩ := hbad (by omega)
    refine J.yl (y_move rfl rfl) rfl rfl rfl ?_
    refine J.gno (b := true) rfl rfl rfl rfl rfl rfl ?_
    refine J.gno (b := true) rfl rfl rfl rfl rfl rfl ?_
    refine J.gno (b := true) rfl rfl rfl rfl rfl rfl ?_
    refine J.gno (b := true) rfl rfl rfl rfl rfl rfl ?_
    refine J.yl (y_pick rfl rfl (fun _ => rfl) (fun h => by cases h)) rfl rfl rfl ?_
    refine J.nil ?_
    refine JQ.next hK3 ?_
    refine JC.yes rfl ?_
    refine JC.seq fun K4 hK4 => ?_
    refine JC.region ?_
    refine J.yl (y_buildA (cs := hc H.zero) rfl Tryd.underlying30 Tb.zz30 Tb.sz5 rfl rfl) rfl rfl rfl ?_
    refine J.storeW 0 rfl rfl rfl rfl rfl rfl rfl Tb.sz30 (hcl _) (hcl _) (hc1 _) ?_
    refine J.yl (y_assign rfl rfl) rfl rfl rfl ?_
    refine J.nil ?_
    refine JQ.next hK4 ?_
    refine JC.ret ?_
    refine JQ.then_ret ?_
    exact ret2 rfl (r_cellA 0 rfl rfl Tb.ag30 (by rw [hcl]; exact Tb.sz30)) (r_tmp rfl) fun w hs => by rw [hb1, hb2]; exact Post.pure hs
  · refine J.yl (y_move rfl rfl) rfl rfl rfl ?_
    refine J.gyes (y_move rfl rfl) rfl rfl rfl rfl rfl rfl ?_
    refine J.gyes (y_move rfl rfl) rfl rfl rfl rfl rfl rfl ?_
    refine J.gyes (y_len rfl Tryd.underlying22 rfl) rfl rfl rfl rfl rfl rfl ?_
    refine J.gyes (y_gt rfl rfl rfl) rfl rfl rfl rfl rfl rfl ?_
    refine J.yl (y_pick rfl rfl (fun h => by cases h) (fun _ => rfl)) rfl rfl rfl ?_
    refine J.nil ?_
    refine JQ.next hK3 ?_
    refine JC.condp rfl (fun h2 => ?_) (fun h2 => ?_)
    · obtain ⟨hb1, hb2⟩ := hbad (by omega)
      refine JC.seq fun K5 hK5 => ?_
      refine JC.region ?_
      refine J.yl (y_buildA (cs := hc H.zero) rfl Tryd.underlying30 Tb.zz30 Tb.sz5 rfl rfl) rfl rfl rfl ?_
      refine J.storeW 0 rfl rfl rfl rfl rfl rfl rfl Tb.sz30 (hcl _) (hcl _) (hc1 _) ?_
      refine J.yl (y_assign rfl rfl) rfl rfl rfl ?_
      refine J.nil ?_
      refine JQ.next hK5 ?_
      refine JC.ret ?_
      refine JQ.then_ret ?_
      exact ret2 rfl (r_cellA 0 rfl rfl Tb.ag30 (by rw [hcl]; exact Tb.sz30)) (r_tmp rfl) fun w hs => by rw [hb1, hb2]; exact Post.pure hs
    · obtain ⟨z, rfl⟩ : ∃ q : Nat, z = q := ⟨z.toNat, by omega⟩
      have ht : trt l z = root (l.take z) := by rw [trt, if_neg (by omega), Int.toNat_natCast]
      have hE : wthE n z = 0 := if_neg (by omega)
      refine JC.skip ?_
      refine JQ.next hK2 ?_
      refine JC.seq fun K6 hK6 => ?_
      refine JC.region ?_
      refine J.yl (y_move rfl rfl) rfl rfl rfl ?_
      refine J.yl (y_move rfl rfl) rfl rfl rfl ?_
      refine J.yl (y_cuttoN z rfl Tryd.underlying22 Tb.sz30 rfl rfl rfl (by omega)) rfl rfl rfl ?_
      refine J.callv rfl rfl rfl rfl Tb.cl86 rfl (rroot_spec (l.take z).length (l.take z) A z k (Nat.le_refl _) (by rw [List.length_take]; omega) (by omega) (by rw [List.length_take]; omega) _ (fun w h => (hA w h.1).htake z)) ?_
      refine J.storeW 0 rfl rfl rfl rfl rfl rfl rfl Tb.sz30 (hcl _) (hcl _) (hc1 _) ?_
      refine J.yl (y_assign rfl rfl) rfl rfl rfl ?_
      refine J.nil ?_
      refine JQ.next hK6 ?_
      refine JC.ret ?_
      exact ret2 rfl (r_cellA 0 rfl rfl Tb.ag30 (by rw [hcl]; exact Tb.sz30)) (r_tmp rfl) fun w hs => by rw [ht, hE]; exact Post.pure hs
/-- The document's proof. -/
theorem prf_tpf (l : List H) (i z : Nat) (hz : z ≤ l.length) (h : i ≤ z) : prf (l.take z) i = tpf l i z ∧ prfE (l.take z) i = tpfE l i z := by
  have hl : (l.take z).length = z := by rw [List.length_take]; omega
  constructor
  · unfold prf tpf
    rw [hl]
    by_cases h0 : i = 0
    · rw [if_pos (by omega), if_pos (by omega)]
    · rw [if_neg (by omega), if_neg (by omega), Int.toNat_natCast, Int.toNat_natCast]
  · unfold prfE tpfE
    rw [hl, if_neg (by omega), if_neg (by omega)]
theorem r14proof_fn (l : List H) (i z : Int) (A : Option Addr) (n k : Nat) (hn : l.length = n) (hk : n ≤ k) (hN : n ≤ 4096) (hA : ∀ w, F w → Sl w A (hcs l)) :
    FnSpec Tryd.prog Gl 40 [.slice A n k, .int .i64 i, .int .i64 z] [] F (ι := Option Addr × Nat) (fun q => (tpf l i z).length ≤ q.2) (fun q => .tuple #[.slice q.1 (tpf l i z).length q.2, .int .i64 (tpfE l i z)]) (OwnL (tpf l i z)) (fun _ _ => True) := by
  have hbad : z < 0 ∨ (n : Int) < z ∨ i < 0 ∨ z < i → tpf l i z = [] ∧ tpfE l i z = 82 := fun h => ⟨if_pos (by rw [hn]; omega), if_pos (by rw [hn]; exact h)⟩
  refine FnSpec.intro Tryd.func40 rfl Tryd.ntmps40 rfl fun X M w => ?_
  refine JC.seq fun K1 hK1 => ?_
  refine JC.region ?_
  refine J.yl (y_assign rfl rfl) rfl rfl rfl ?_
  refine J.yl (y_assign rfl rfl) rfl rfl rfl ?_
  refine J.nil ?_
  refine JQ.next hK1 ?_
  refine JC.seq fun K2 hK2 => ?_
  refine JC.seq fun K3 hK3 => ?_
  refine JC.region ?_
  refine J.yl (y_move rfl rfl) rfl rfl rfl ?_
  refine J.ylp (y_lt rfl rfl rfl) rfl rfl rfl (fun h1 => ?_) (fun h1 => ?_)
  · obtain ⟨hb1, hb2⟩ := hbad (by omega)
    refine J.yl (y_move rfl rfl) rfl rfl rfl ?_
    refine J.gno (b := true) rfl rfl rfl rfl rfl rfl ?_
    refine J.gno (b := true) rfl rfl rfl rfl rfl rfl ?_
    refine J.gno (b := true) rfl rfl rfl rfl rfl rfl ?_
    refine J.gno (b := true) rfl rfl rfl rfl rfl rfl ?_
    refine J.yl (y_pick rfl rfl (fun _ => rfl) (fun h => by cases h)) rfl rfl rfl ?_
    refine J.yl (y_move rfl rfl) rfl rfl rfl ?_
    refine J.gno (b := true) rfl rfl rfl rfl rfl rfl ?_
    refine J.gno (b := true) rfl rfl rfl rfl rfl rfl ?_
    refine J.yl (y_pick rfl rfl (fun _ => rfl) (fun h => by cases h)) rfl rfl rfl ?_
    refine J.yl (y_move rfl rfl) rfl rfl rfl ?_
    refine J.gno (b := true) rfl rfl rfl rfl rfl rfl ?_
    refine J.gno (b := true) rfl rfl rfl rfl rfl rfl ?_
    refine J.gno (b := true) rfl rfl rfl rfl rfl rfl ?_
    refine J.yl (y_pick rfl rfl (fun _ => rfl) (fun h => by cases h)) rfl rfl rfl ?_
    refine J.nil ?_
    refine JQ.next hK3 ?_
    refine JC.yes rfl ?_
    refine JC.seq fun K4 hK4 => ?_
    refine JC.region ?_
    refine J.yl (y_assign rfl rfl) rfl rfl rfl ?_
    refine J.yl (y_assign rfl rfl) rfl rfl rfl ?_
    refine J.nil ?_
    refine JQ.next hK4 ?_
    refine JC.ret ?_
    refine JQ.then_ret ?_
    refine JQ.st ?_ (fun w hs => hs.nilrow 30 32)
    exact ret2 rfl (r_tmp rfl) (r_tmp rfl) fun w hs => by rw [hb1, hb2]; exact Post.of_st hs (none, 0) (Nat.le_refl _) (List.Sublist.refl _) fun _ _ => trivial
  · refine J.yl (y_move rfl rfl) rfl rfl rfl ?_
    refine J.gyes (y_move rfl rfl) rfl rfl rfl rfl rfl rfl ?_
    refine J.gyes (y_move rfl rfl) rfl rfl rfl rfl rfl rfl ?_
    refine J.gyes (y_len rfl Tryd.underlying22 rfl) rfl rfl rfl rfl rfl rfl ?_
    refine J.ypG (y_gt rfl rfl rfl) rfl rfl rfl rfl rfl rfl (fun h2 => ?_) (fun h2 => ?_)
    · obtain ⟨hb1, hb2⟩ := hbad (by omega)
      refine J.yl (y_pick rfl rfl (fun h => by cases h) (fun _ => rfl)) rfl rfl rfl ?_
      refine J.yl (y_move rfl rfl) rfl rfl rfl ?_
      refine J.gno (b := true) rfl rfl rfl rfl rfl rfl ?_
      refine J.gno (b := true) rfl rfl rfl rfl rfl rfl ?_
      refine J.yl (y_pick rfl rfl (fun _ => rfl) (fun h => by cases h)) rfl rfl rfl ?_
      refine J.yl (y_move rfl rfl) rfl rfl rfl ?_
      refine J.gno (b := true) rfl rfl rfl rfl rfl rfl ?_
      refine J.gno (b := true) rfl rfl rfl rfl rfl rfl ?_
      refine J.gno (b := true) rfl rfl rfl rfl rfl rfl ?_
      refine J.yl (y_pick rfl rfl (fun _ => rfl) (fun h => by cases h)) rfl rfl rfl ?_
      refine J.nil ?_
      refine JQ.next hK3 ?_
      refine JC.yes rfl ?_
      refine JC.seq fun K5 hK5 => ?_
      refine JC.region ?_
      refine J.yl (y_assign rfl rfl) rfl rfl rfl ?_
      refine J.yl (y_assign rfl rfl) rfl rfl rfl ?_
      refine J.nil ?_
      refine JQ.next hK5 ?_
      refine JC.ret ?_
      refine JQ.then_ret ?_
      refine JQ.st ?_ (fun w hs => hs.nilrow 30 32)
      exact ret2 rfl (r_tmp rfl) (r_tmp rfl) fun w hs => by rw [hb1, hb2]; exact Post.of_st hs (none, 0) (Nat.le_refl _) (List.Sublist.refl _) fun _ _ => trivial
    · refine J.yl (y_pick rfl rfl (fun h => by cases h) (fun _ => rfl)) rfl rfl rfl ?_
      refine J.yl (y_move rfl rfl) rfl rfl rfl ?_
      refine J.gyes (y_move rfl rfl) rfl rfl rfl rfl rfl rfl ?_
      refine J.ypG (y_lt rfl rfl rfl) rfl rfl rfl rfl rfl rfl (fun h3 => ?_) (fun h3 => ?_)
      · obtain ⟨hb1, hb2⟩ := hbad (by omega)
        refine J.yl (y_pick rfl rfl (fun h => by cases h) (fun _ => rfl)) rfl rfl rfl ?_
        refine J.yl (y_move rfl rfl) rfl rfl rfl ?_
        refine J.gno (b := true) rfl rfl rfl rfl rfl rfl ?_
        refine J.gno (b := true) rfl rfl rfl rfl rfl rfl ?_
        refine J.gno (b := true) rfl rfl rfl rfl rfl rfl ?_
        refine J.yl (y_pick rfl rfl (fun _ => rfl) (fun h => by cases h)) rfl rfl rfl ?_
        refine J.nil ?_
        refine JQ.next hK3 ?_
        refine JC.yes rfl ?_
        refine JC.seq fun K6 hK6 => ?_
        refine JC.region ?_
        refine J.yl (y_assign rfl rfl) rfl rfl rfl ?_
        refine J.yl (y_assign rfl rfl) rfl rfl rfl ?_
        refine J.nil ?_
        refine JQ.next hK6 ?_
        refine JC.ret ?_
        refine JQ.then_ret ?_
        refine JQ.st ?_ (fun w hs => hs.nilrow 30 32)
        exact ret2 rfl (r_tmp rfl) (r_tmp rfl) fun w hs => by rw [hb1, hb2]; exact Post.of_st hs (none, 0) (Nat.le_refl _) (List.Sublist.refl _) fun _ _ => trivial
      · refine J.yl (y_pick rfl rfl (fun h => by cases h) (fun _ => rfl)) rfl rfl rfl ?_
        refine J.yl (y_move rfl rfl) rfl rfl rfl ?_
        refine J.gyes (y_move rfl rfl) rfl rfl rfl rfl rfl rfl ?_
        refine J.gyes (y_move rfl rfl) rfl rfl rfl rfl rfl rfl ?_
        refine J.gyes (y_gt rfl rfl rfl) rfl rfl rfl rfl rfl rfl ?_
        refine J.yl (y_pick rfl rfl (fun h => by cases h) (fun _ => rfl)) rfl rfl rfl ?_
        refine J.nil ?_
        refine JQ.next hK3 ?_
        refine JC.condp rfl (fun h4 => ?_) (fun h4 => ?_)
        · obtain ⟨hb1, hb2⟩ := hbad (by omega)
          refine JC.seq fun K7 hK7 => ?_
          refine JC.region ?_
          refine J.yl (y_assign rfl rfl) rfl rfl rfl ?_
          refine J.yl (y_assign rfl rfl) rfl rfl rfl ?_
          refine J.nil ?_
          refine JQ.next hK7 ?_
          refine JC.ret ?_
          refine JQ.then_ret ?_
          refine JQ.st ?_ (fun w hs => hs.nilrow 30 32)
          exact ret2 rfl (r_tmp rfl) (r_tmp rfl) fun w hs => by rw [hb1, hb2]; exact Post.of_st hs (none, 0) (Nat.le_refl _) (List.Sublist.refl _) fun _ _ => trivial
        · obtain ⟨z, rfl⟩ : ∃ q : Nat, z = q := ⟨z.toNat, by omega⟩
          obtain ⟨i, rfl⟩ : ∃ q : Nat, i = q := ⟨i.toNat, by omega⟩
          obtain ⟨hp1, hp2⟩ := prf_tpf l i z (by omega) (by omega)
          refine JC.skip ?_
          refine JQ.next hK2 ?_
          refine JC.seq fun K8 hK8 => ?_
          refine JC.region ?_
          refine J.yl (y_move rfl rfl) rfl rfl rfl ?_
          refine J.yl (y_move rfl rfl) rfl rfl rfl ?_
          refine J.yl (y_cuttoN z rfl Tryd.underlying22 Tb.sz30 rfl rfl rfl (by omega)) rfl rfl rfl ?_
          refine J.yl (y_move rfl rfl) rfl rfl rfl ?_
          refine J.callR (Cin := []) rfl rfl rfl rfl Tb.cl25 rfl rfl (rproof_fn (l.take z) i A z k (by rw [List.length_take]; omega) (by omega) (by omega) (fun w h => (hA w h.1).htake z)) ?_
          rintro ⟨A2, k2⟩ ⟨hk2, _⟩
          refine J.yl (y_extract rfl rfl rfl) rfl rfl rfl ?_
          refine J.yl (y_extract rfl rfl rfl) rfl rfl rfl ?_
          refine J.yl (y_assign rfl rfl) rfl rfl rfl ?_
          refine J.yl (y_assign rfl rfl) rfl rfl rfl ?_
          refine J.nil ?_
          refine JQ.next hK8 ?_
          refine JC.ret ?_
          exact ret2 rfl (r_tmp rfl) (r_tmp rfl) fun w hs => by rw [← hp1, ← hp2]; exact Post.of_st hs (A2, k2) hk2 (List.Sublist.refl _) fun _ _ => trivial
theorem r06path_fn : ∀ (N : Nat) (l : List H) (i : Nat) (A : Option Addr) (n k : Nat), n ≤ N → i < n → l.length = n → n ≤ k → N ≤ 1000000 → ∀ F : World → Prop, (∀ w, F w → Sl w A (hcs l)) →
    FnSpec Tryd.prog Gl 118 [.slice A n k, .int .i64 (i : Int)] [] F (ι := Option Addr × Nat) (fun q => (path l i).length ≤ q.2 ∧ (path l i).length ≤ n) (fun q => .tuple #[.slice q.1 (path l i).length q.2, .int .i64 0]) (OwnL (path l i)) (fun _ _ => True) := by
  intro N
  induction N with
  | zero => intro l i A n k h0 h1; omega
  | succ N ih =>
    intro l i A n k h0 h1 hn hk hM F hA
    refine FnSpec.intro Tryd.func118 rfl Tryd.ntmps118 rfl fun X M w => ?_
    refine JC.seq fun K1 hK1 => ?_
    refine JC.region ?_
    refine J.yl (y_assign rfl rfl) rfl rfl rfl ?_
    refine J.yl (y_assign rfl rfl) rfl rfl rfl ?_
    refine J.nil ?_
    refine JQ.next hK1 ?_
    refine JC.seq fun K2 hK2 => ?_
    refine JC.seq fun K3 hK3 => ?_
    refine JC.region ?_
    refine J.yl (y_move rfl rfl) rfl rfl rfl ?_
    refine J.yl ((y_lt rfl rfl rfl).to (v' := .bool false) (by rw [decide_eq_false (by omega)])) rfl rfl rfl ?_
    refine J.yl (y_move rfl rfl) rfl rfl rfl ?_
    refine J.gyes (y_move rfl rfl) rfl rfl rfl rfl rfl rfl ?_
    refine J.gyes (y_move rfl rfl) rfl rfl rfl rfl rfl rfl ?_
    refine J.gyes (y_len rfl Tryd.underlying22 rfl) rfl rfl rfl rfl rfl rfl ?_
    refine J.gyes (y_ge rfl rfl rfl) rfl rfl rfl rfl rfl rfl ?_
    refine J.yl (y_pick rfl rfl (fun h => by cases h) (fun _ => rfl)) rfl rfl rfl ?_
    refine J.nil ?_
    refine JQ.next hK3 ?_
    refine JC.condp rfl (fun h2 => ?_) (fun h2 => ?_)
    · omega
    · refine JC.skip ?_
      refine JQ.next hK2 ?_
      refine JC.seq fun K4 hK4 => ?_
      refine JC.seq fun K5 hK5 => ?_
      refine JC.region ?_
      refine J.yl (y_move rfl rfl) rfl rfl rfl ?_
      refine J.yl (y_len rfl Tryd.underlying22 rfl) rfl rfl rfl ?_
      refine J.yl (y_eq rfl rfl rfl) rfl rfl rfl ?_
      refine J.nil ?_
      refine JQ.next hK5 ?_
      refine JC.condp rfl (fun h3 => ?_) (fun h3 => ?_)
      · have hp : path l i = [] := path_one _ _ (by omega)
        refine JC.seq fun K6 hK6 => ?_
        refine JC.region ?_
        refine J.yl (y_assign rfl rfl) rfl rfl rfl ?_
        refine J.yl (y_assign rfl rfl) rfl rfl rfl ?_
        refine J.nil ?_
        refine JQ.next hK6 ?_
        refine JC.ret ?_
        refine JQ.then_ret ?_
        refine JQ.st ?_ (fun w hs => hs.nilrow 30 32)
        exact ret2 rfl (r_tmp rfl) (r_tmp rfl) fun w hs => by rw [hp]; exact Post.of_st hs (none, 0) ⟨Nat.le_refl _, Nat.zero_le _⟩ (List.Sublist.refl _) fun _ _ => trivial
      · have h2l : 2 ≤ l.length := by omega
        have hs := split_spec h2l
        subst hn
        refine JC.skip ?_
        refine JQ.next hK4 ?_
        refine JC.seq fun K7 hK7 => ?_
        refine JC.region ?_
        refine J.yl (y_move rfl rfl) rfl rfl rfl ?_
        refine J.yl (y_len rfl Tryd.underlying22 rfl) rfl rfl rfl ?_
        refine J.callv rfl rfl rfl rfl Tb.cl145 rfl (rsplit_fn l.length _ rfl (by omega)) ?_
        refine J.yl (y_assign rfl rfl) rfl rfl rfl ?_
        refine J.nil ?_
        refine JQ.next hK7 ?_
        refine JC.seq fun K8 hK8 => ?_
        refine JC.seq fun K9 hK9 => ?_
        refine JC.region ?_
        refine J.yl (y_move rfl rfl) rfl rfl rfl ?_
        refine J.yl (y_move rfl rfl) rfl rfl rfl ?_
        refine J.yl (y_lt rfl rfl rfl) rfl rfl rfl ?_
        refine J.nil ?_
        refine JQ.next hK9 ?_
        refine JC.condp rfl (fun h4 => ?_) (fun h4 => ?_)
        · have hp := path_left l i h2l (by omega)
          have ht : (l.take (split l.length)).length = split l.length := by rw [List.length_take]; omega
          refine JC.seq fun K10 hK10 => ?_
          refine JC.region ?_
          refine J.yl (y_move rfl rfl) rfl rfl rfl ?_
          refine J.yl (y_move rfl rfl) rfl rfl rfl ?_
          refine J.yl (y_cuttoN (split l.length) rfl Tryd.underlying22 Tb.sz30 rfl rfl rfl (by omega)) rfl rfl rfl ?_
          refine J.yl (y_move rfl rfl) rfl rfl rfl ?_
          refine J.callR (Cin := []) rfl rfl rfl rfl Tb.cl118 rfl rfl (ih (l.take (split l.length)) i A (split l.length) k (by omega) (by omega) ht (by omega) (by omega) _ (fun w h => (hA w h.1).htake _)) ?_
          rintro ⟨A2, k2⟩ ⟨hk2, hl2⟩
          refine J.yl (y_move rfl rfl) rfl rfl rfl ?_
          refine J.yl (y_extract rfl rfl rfl) rfl rfl rfl ?_
          refine J.yl (y_extract rfl rfl rfl) rfl rfl rfl ?_
          refine J.yl (y_assign rfl rfl) rfl rfl rfl ?_
          refine J.yl (y_assign rfl rfl) rfl rfl rfl ?_
          refine J.nil ?_
          refine JQ.next hK10 ?_
          refine JC.seq fun K11 hK11 => ?_
          refine JC.region ?_
          refine J.yl (y_move rfl rfl) rfl rfl rfl ?_
          refine J.yl (y_move rfl rfl) rfl rfl rfl ?_
          refine J.yl (y_move rfl rfl) rfl rfl rfl ?_
          have hk2 : (path (l.take (split l.length)) i).length ≤ k2 := hk2
          generalize path (l.take (split l.length)) i = out at hk2 hl2 hp ⊢
          refine J.yl (y_cutfromN (split l.length) rfl Tryd.underlying22 Tb.sz30 rfl rfl rfl (by omega)) rfl rfl rfl ?_
          refine J.callv rfl rfl rfl rfl Tb.cl86 rfl (rroot_spec (l.drop (split l.length)).length (l.drop (split l.length)) _ _ _ (Nat.le_refl _) (by rw [List.length_drop]) (by omega) (by rw [List.length_drop]; omega) _ (fun w h => (hA w h.1).hdrop _ _ hk (by omega))) ?_
          refine J.bs1 rfl rfl rfl rfl rfl Tryd.underlying22 Tb.zz30 Tb.sz30 rfl (by decide) rfl (hcl _) fun g41 => ?_
          refine J.append 1 rfl rfl rfl rfl rfl rfl Tryd.underlying22 Tb.zz30 Tb.sz30 Tb.by30 rfl (by decide) rfl (by rw [hcl]) (fun w hs => .inr ⟨rfl, At.box (hs.get (i := 0) rfl)⟩) (hc1 _) (by omega) (by decide) (show _ = (out ++ [root (l.drop (split l.length))]).length by simp) (show _ = hcs (out ++ [root (l.drop (split l.length))]) by rw [hcs_append, hcs_one]) fun A k hAx hkx => ?_
          refine J.drop ?_
          refine J.yl (y_assign rfl rfl) rfl rfl rfl ?_
          refine J.yl (y_assign rfl rfl) rfl rfl rfl ?_
          refine J.nil ?_
          refine JQ.next hK11 ?_
          refine JC.ret ?_
          refine JQ.then_ret ?_
          exact ret2 rfl (r_tmp rfl) (r_tmp rfl) fun w hs => by rw [hp]; exact Post.of_st hs (A, k) ⟨hkx, by rw [List.length_append, List.length_singleton]; omega⟩ (List.Sublist.refl _) fun _ _ => trivial
        · have hp := path_right l i h2l (by omega)
          refine JC.skip ?_
          refine JQ.next hK8 ?_
          refine JC.seq fun K13 hK13 => ?_
          refine JC.region ?_
          refine J.yl (y_move rfl rfl) rfl rfl rfl ?_
          refine J.yl (y_move rfl rfl) rfl rfl rfl ?_
          refine J.yl (y_cutfromN (split l.length) rfl Tryd.underlying22 Tb.sz30 rfl rfl rfl (by omega)) rfl rfl rfl ?_
          refine J.yl (y_move rfl rfl) rfl rfl rfl ?_
          refine J.yl (y_move rfl rfl) rfl rfl rfl ?_
          refine J.yl (y_sub64 rfl rfl rfl (by omega)) rfl rfl rfl ?_
          rw [show ((i : Int) - (split l.length : Int)) = ((i - split l.length : Nat) : Int) by omega]
          refine J.callR (Cin := []) rfl rfl rfl rfl Tb.cl118 rfl rfl (ih (l.drop (split l.length)) (i - split l.length) _ (l.length - split l.length) _ (by omega) (by omega) (by rw [List.length_drop]) (by omega) (by omega) _ (fun w h => (hA w h.1).hdrop _ _ hk (by omega))) ?_
          rintro ⟨A2, k2⟩ ⟨hk2, hl2⟩
          refine J.yl (y_move rfl rfl) rfl rfl rfl ?_
          refine J.yl (y_extract rfl rfl rfl) rfl rfl rfl ?_
          refine J.yl (y_extract rfl rfl rfl) rfl rfl rfl ?_
          refine J.yl (y_assign rfl rfl) rfl rfl rfl ?_
          refine J.yl (y_assign rfl rfl) rfl rfl rfl ?_
          refine J.nil ?_
          refine JQ.next hK13 ?_
          refine JC.seq fun K14 hK14 => ?_
          refine JC.region ?_
          refine J.yl (y_move rfl rfl) rfl rfl rfl ?_
          refine J.yl (y_move rfl rfl) rfl rfl rfl ?_
          refine J.yl (y_move rfl rfl) rfl rfl rfl ?_
          have hk2 : (path (l.drop (split l.length)) (i - split l.length)).length ≤ k2 := hk2
          generalize path (l.drop (split l.length)) (i - split l.length) = out at hk2 hl2 hp ⊢
          refine J.yl (y_cuttoN (split l.length) rfl Tryd.underlying22 Tb.sz30 rfl rfl rfl (by omega)) rfl rfl rfl ?_
          refine J.callv rfl rfl rfl rfl Tb.cl86 rfl (rroot_spec (l.take (split l.length)).length (l.take (split l.length)) A (split l.length) _ (Nat.le_refl _) (by rw [List.length_take]; omega) (by omega) (by rw [List.length_take]; omega) _ (fun w h => (hA w h.1).htake _)) ?_
          refine J.bs1 rfl rfl rfl rfl rfl Tryd.underlying22 Tb.zz30 Tb.sz30 rfl (by decide) rfl (hcl _) fun g58 => ?_
          refine J.append 1 rfl rfl rfl rfl rfl rfl Tryd.underlying22 Tb.zz30 Tb.sz30 Tb.by30 rfl (by decide) rfl (by rw [hcl]) (fun w hs => .inr ⟨rfl, At.box (hs.get (i := 0) rfl)⟩) (hc1 _) (by omega) (by decide) (show _ = (out ++ [root (l.take (split l.length))]).length by simp) (show _ = hcs (out ++ [root (l.take (split l.length))]) by rw [hcs_append, hcs_one]) fun A k hAx hkx => ?_
          refine J.drop ?_
          refine J.yl (y_assign rfl rfl) rfl rfl rfl ?_
          refine J.yl (y_assign rfl rfl) rfl rfl rfl ?_
          refine J.nil ?_
          refine JQ.next hK14 ?_
          refine JC.ret ?_
          exact ret2 rfl (r_tmp rfl) (r_tmp rfl) fun w hs => by rw [hp]; exact Post.of_st hs (A, k) ⟨hkx, by rw [List.length_append, List.length_singleton]; omega⟩ (List.Sublist.refl _) fun _ _ => trivial
end Go.Proofs.YtjkfeonbioccmaaDoor
namespace Go.Proofs.YtjkfeonbioccmaaDoor
open Go Go.Sx Go.RowKit
set_option linter.unusedVariables false
set_option linter.unusedSimpArgs false
set_option maxRecDepth 100000
set_option maxHeartbeats 2000000
variable {Gl F : World → Prop}
theorem shl_one (a p : Nat) (hp : 2 ^ a = p) (h : a ≤ 12) : IntKind.i64.wrap (1 * 2 ^ (min (a : Int).toNat IntKind.i64.bits)) = (p : Int) := by
  subst hp
  have : ∀ k : Fin 13, IntKind.i64.wrap (1 * 2 ^ (min ((k.val : Nat) : Int).toNat IntKind.i64.bits)) = ((2 ^ k.val : Nat) : Int) := by decide
  exact this ⟨a, by omega⟩
theorem r14path_fn (l : List H) (i z : Int) (A : Option Addr) (n k : Nat) (hn : l.length = n) (hk : n ≤ k) (hN : n ≤ 4096) (hA : ∀ w, F w → Sl w A (hcs l)) :
    FnSpec Tryd.prog Gl 38 [.slice A n k, .int .i64 i, .int .i64 z] [] F (ι := Option Addr × Nat) (fun q => (tpth l i z).length ≤ q.2) (fun q => .tuple #[.slice q.1 (tpth l i z).length q.2, .int .i64 (tpthE l i z)]) (OwnL (tpth l i z)) (fun _ _ => True) := by
  have hbad : z < 0 ∨ (n : Int) < z ∨ i < 0 ∨ z ≤ i → tpth l i z = [] ∧ tpthE l i z = 82 := fun h => ⟨if_pos (by rw [hn]; exact h), if_pos (by rw [hn]; exact h)⟩
  refine FnSpec.intro Tryd.func38 rfl Tryd.ntmps38 rfl fun X M w => ?_
  refine JC.seq fun K1 hK1 => ?_
  refine JC.region ?_
  refine J.yl (y_assign rfl rfl) rfl rfl rfl ?_
  refine J.yl (y_assign rfl rfl) rfl rfl rfl ?_
  refine J.nil ?_
  refine JQ.next hK1 ?_
  refine JC.seq fun K2 hK2 => ?_
  refine JC.seq fun K3 hK3 => ?_
  refine JC.region ?_
  refine J.yl (y_move rfl rfl) rfl rfl rfl ?_
  refine J.ylp (y_lt rfl rfl rfl) rfl rfl rfl (fun h1 => ?_) (fun h1 => ?_)
  · obtain ⟨hb1, hb2⟩ := hbad (by omega)
    refine J.yl (y_move rfl rfl) rfl rfl rfl ?_
    refine J.gno (b := true) rfl rfl rfl rfl rfl rfl ?_
    refine J.gno (b := true) rfl rfl rfl rfl rfl rfl ?_
    refine J.gno (b := true) rfl rfl rfl rfl rfl rfl ?_
    refine J.gno (b := true) rfl rfl rfl rfl rfl rfl ?_
    refine J.yl (y_pick rfl rfl (fun _ => rfl) (fun h => by cases h)) rfl rfl rfl ?_
    refine J.yl (y_move rfl rfl) rfl rfl rfl ?_
    refine J.gno (b := true) rfl rfl rfl rfl rfl rfl ?_
    refine J.gno (b := true) rfl rfl rfl rfl rfl rfl ?_
    refine J.yl (y_pick rfl rfl (fun _ => rfl) (fun h => by cases h)) rfl rfl rfl ?_
    refine J.yl (y_move rfl rfl) rfl rfl rfl ?_
    refine J.gno (b := true) rfl rfl rfl rfl rfl rfl ?_
    refine J.gno (b := true) rfl rfl rfl rfl rfl rfl ?_
    refine J.gno (b := true) rfl rfl rfl rfl rfl rfl ?_
    refine J.yl (y_pick rfl rfl (fun _ => rfl) (fun h => by cases h)) rfl rfl rfl ?_
    refine J.nil ?_
    refine JQ.next hK3 ?_
    refine JC.yes rfl ?_
    refine JC.seq fun K4 hK4 => ?_
    refine JC.region ?_
    refine J.yl (y_assign rfl rfl) rfl rfl rfl ?_
    refine J.yl (y_assign rfl rfl) rfl rfl rfl ?_
    refine J.nil ?_
    refine JQ.next hK4 ?_
    refine JC.ret ?_
    refine JQ.then_ret ?_
    refine JQ.st ?_ (fun w hs => hs.nilrow 30 32)
    exact ret2 rfl (r_tmp rfl) (r_tmp rfl) fun w hs => by rw [hb1, hb2]; exact Post.of_st hs (none, 0) (Nat.le_refl _) (List.Sublist.refl _) fun _ _ => trivial
  · refine J.yl (y_move rfl rfl) rfl rfl rfl ?_
    refine J.gyes (y_move rfl rfl) rfl rfl rfl rfl rfl rfl ?_
    refine J.gyes (y_move rfl rfl) rfl rfl rfl rfl rfl rfl ?_
    refine J.gyes (y_len rfl Tryd.underlying22 rfl) rfl rfl rfl rfl rfl rfl ?_
    refine J.ypG (y_gt rfl rfl rfl) rfl rfl rfl rfl rfl rfl (fun h2 => ?_) (fun h2 => ?_)
    · obtain ⟨hb1, hb2⟩ := hbad (by omega)
      refine J.yl (y_pick rfl rfl (fun h => by cases h) (fun _ => rfl)) rfl rfl rfl ?_
      refine J.yl (y_move rfl rfl) rfl rfl rfl ?_
      refine J.gno (b := true) rfl rfl rfl rfl rfl rfl ?_
      refine J.gno (b := true) rfl rfl rfl rfl rfl rfl ?_
      refine J.yl (y_pick rfl rfl (fun _ => rfl) (fun h => by cases h)) rfl rfl rfl ?_
      refine J.yl (y_move rfl rfl) rfl rfl rfl ?_
      refine J.gno (b := true) rfl rfl rfl rfl rfl rfl ?_
      refine J.gno (b := true) rfl rfl rfl rfl rfl rfl ?_
      refine J.gno (b := true) rfl rfl rfl rfl rfl rfl ?_
      refine J.yl (y_pick rfl rfl (fun _ => rfl) (fun h => by cases h)) rfl rfl rfl ?_
      refine J.nil ?_
      refine JQ.next hK3 ?_
      refine JC.yes rfl ?_
      refine JC.seq fun K5 hK5 => ?_
      refine JC.region ?_
      refine J.yl (y_assign rfl rfl) rfl rfl rfl ?_
      refine J.yl (y_assign rfl rfl) rfl rfl rfl ?_
      refine J.nil ?_
      refine JQ.next hK5 ?_
      refine JC.ret ?_
      refine JQ.then_ret ?_
      refine JQ.st ?_ (fun w hs => hs.nilrow 30 32)
      exact ret2 rfl (r_tmp rfl) (r_tmp rfl) fun w hs => by rw [hb1, hb2]; exact Post.of_st hs (none, 0) (Nat.le_refl _) (List.Sublist.refl _) fun _ _ => trivial
    · refine J.yl (y_pick rfl rfl (fun h => by cases h) (fun _ => rfl)) rfl rfl rfl ?_
      refine J.yl (y_move rfl rfl) rfl rfl rfl ?_
      refine J.gyes (y_move rfl rfl) rfl rfl rfl rfl rfl rfl ?_
      refine J.ypG (y_lt rfl rfl rfl) rfl rfl rfl rfl rfl rfl (fun h3 => ?_) (fun h3 => ?_)
      · obtain ⟨hb1, hb2⟩ := hbad (by omega)
        refine J.yl (y_pick rfl rfl (fun h => by cases h) (fun _ => rfl)) rfl rfl rfl ?_
        refine J.yl (y_move rfl rfl) rfl rfl rfl ?_
        refine J.gno (b := true) rfl rfl rfl rfl rfl rfl ?_
        refine J.gno (b := true) rfl rfl rfl rfl rfl rfl ?_
        refine J.gno (b := true) rfl rfl rfl rfl rfl rfl ?_
        refine J.yl (y_pick rfl rfl (fun _ => rfl) (fun h => by cases h)) rfl rfl rfl ?_
        refine J.nil ?_
        refine JQ.next hK3 ?_
        refine JC.yes rfl ?_
        refine JC.seq fun K6 hK6 => ?_
        refine JC.region ?_
        refine J.yl (y_assign rfl rfl) rfl rfl rfl ?_
        refine J.yl (y_assign rfl rfl) rfl rfl rfl ?_
        refine J.nil ?_
        refine JQ.next hK6 ?_
        refine JC.ret ?_
        refine JQ.then_ret ?_
        refine JQ.st ?_ (fun w hs => hs.nilrow 30 32)
        exact ret2 rfl (r_tmp rfl) (r_tmp rfl) fun w hs => by rw [hb1, hb2]; exact Post.of_st hs (none, 0) (Nat.le_refl _) (List.Sublist.refl _) fun _ _ => trivial
      · refine J.yl (y_pick rfl rfl (fun h => by cases h) (fun _ => rfl)) rfl rfl rfl ?_
        refine J.yl (y_move rfl rfl) rfl rfl rfl ?_
        refine J.gyes (y_move rfl rfl) rfl rfl rfl rfl rfl rfl ?_
        refine J.gyes (y_move rfl rfl) rfl rfl rfl rfl rfl rfl ?_
        refine J.gyes (y_ge rfl rfl rfl) rfl rfl rfl rfl rfl rfl ?_
        refine J.yl (y_pick rfl rfl (fun h => by cases h) (fun _ => rfl)) rfl rfl rfl ?_
        refine J.nil ?_
        refine JQ.next hK3 ?_
        refine JC.condp rfl (fun h4 => ?_) (fun h4 => ?_)
        · obtain ⟨hb1, hb2⟩ := hbad (by omega)
          refine JC.seq fun K7 hK7 => ?_
          refine JC.region ?_
          refine J.yl (y_assign rfl rfl) rfl rfl rfl ?_
          refine J.yl (y_assign rfl rfl) rfl rfl rfl ?_
          refine J.nil ?_
          refine JQ.next hK7 ?_
          refine JC.ret ?_
          refine JQ.then_ret ?_
          refine JQ.st ?_ (fun w hs => hs.nilrow 30 32)
          exact ret2 rfl (r_tmp rfl) (r_tmp rfl) fun w hs => by rw [hb1, hb2]; exact Post.of_st hs (none, 0) (Nat.le_refl _) (List.Sublist.refl _) fun _ _ => trivial
        · obtain ⟨z, rfl⟩ : ∃ q : Nat, z = q := ⟨z.toNat, by omega⟩
          obtain ⟨i, rfl⟩ : ∃ q : Nat, i = q := ⟨i.toNat, by omega⟩
          have hp1 : tpth l i z = path (l.take z) i := by rw [tpth, if_neg (by omega), Int.toNat_natCast, Int.toNat_natCast]
          have hp2 : tpthE l i z = 0 := by rw [tpthE, if_neg (by omega)]
          refine JC.skip ?_
          refine JQ.next hK2 ?_
          refine JC.seq fun K8 hK8 => ?_
          refine JC.region ?_
          refine J.yl (y_move rfl rfl) rfl rfl rfl ?_
          refine J.yl (y_move rfl rfl) rfl rfl rfl ?_
          refine J.yl (y_cuttoN z rfl Tryd.underlying22 Tb.sz30 rfl rfl rfl (by omega)) rfl rfl rfl ?_
          refine J.yl (y_move rfl rfl) rfl rfl rfl ?_
          refine J.callR (Cin := []) rfl rfl rfl rfl Tb.cl118 rfl rfl (r06path_fn z (l.take z) i A z k (Nat.le_refl _) (by omega) (by rw [List.length_take]; omega) (by omega) (by omega) _ (fun w h => (hA w h.1).htake z)) ?_
          rintro ⟨A2, k2⟩ ⟨hk2, _⟩
          refine J.yl (y_extract rfl rfl rfl) rfl rfl rfl ?_
          refine J.yl (y_extract rfl rfl rfl) rfl rfl rfl ?_
          refine J.yl (y_assign rfl rfl) rfl rfl rfl ?_
          refine J.yl (y_assign rfl rfl) rfl rfl rfl ?_
          refine J.nil ?_
          refine JQ.next hK8 ?_
          refine JC.ret ?_
          exact ret2 rfl (r_tmp rfl) (r_tmp rfl) fun w hs => by rw [hp1, hp2]; exact Post.of_st hs (A2, k2) hk2 (List.Sublist.refl _) fun _ _ => trivial
/-- A node that the document tells. -/
theorem r14node_fn (l : List H) (a b : Int) (A : Option Addr) (n k : Nat) (hn : l.length = n) (hk : n ≤ k) (hN : n ≤ 4096) (hA : ∀ w, F w → Sl w A (hcs l)) :
    PureFn Tryd.prog Gl 34 [.slice A n k, .int .i64 a, .int .i64 b] F (.tuple #[hv ((tile l a b).getD H.zero), .bool (tile l a b).isSome]) := by
  have hno : a < 0 ∨ 12 < a ∨ b < 0 ∨ 4096 < b → tile l a b = none := fun h => if_neg fun e => by
    obtain ⟨e1, e2, e3⟩ := e
    rw [hn] at e3
    rcases h with h | h | h | h
    · omega
    · have h1 : 2 ^ 13 ≤ 2 ^ a.toNat := Nat.pow_le_pow_right (by decide) (by omega)
      have h2 : 2 ^ a.toNat ≤ (b.toNat + 1) * 2 ^ a.toNat := Nat.le_mul_of_pos_left _ (by omega)
      have h3 : (2 : Nat) ^ 13 = 8192 := rfl
      omega
    · omega
    · have h2 : b.toNat + 1 ≤ (b.toNat + 1) * 2 ^ a.toNat := Nat.le_mul_of_pos_right _ (Nat.pow_pos (by decide))
      omega
  have hz : tile l a b = none → (Value.tuple #[.agg (hc H.zero).toArray, .bool false]) = .tuple #[hv ((tile l a b).getD H.zero), .bool (tile l a b).isSome] := fun h => by rw [h]; rfl
  refine FnSpec.intro Tryd.func34 rfl Tryd.ntmps34 rfl fun X M w => ?_
  refine JC.seq fun K1 hK1 => ?_
  refine JC.region ?_
  refine J.alloc rfl rfl rfl rfl Tb.zz30 rfl fun g6 => ?_
  refine J.yl (y_assign rfl rfl) rfl rfl rfl ?_
  refine J.nil ?_
  refine JQ.next hK1 ?_
  refine JC.seq fun K2 hK2 => ?_
  refine JC.seq fun K3 hK3 => ?_
  refine JC.region ?_
  refine J.yl (y_move rfl rfl) rfl rfl rfl ?_
  refine J.ylp (y_lt rfl rfl rfl) rfl rfl rfl (fun h1 => ?_) (fun h1 => ?_)
  · have hb := hz (hno (by omega))
    refine J.yl (y_move rfl rfl) rfl rfl rfl ?_
    refine J.gno (b := true) rfl rfl rfl rfl rfl rfl ?_
    refine J.gno (b := true) rfl rfl rfl rfl rfl rfl ?_
    refine J.yl (y_pick rfl rfl (fun _ => rfl) (fun h => by cases h)) rfl rfl rfl ?_
    refine J.yl (y_move rfl rfl) rfl rfl rfl ?_
    refine J.gno (b := true) rfl rfl rfl rfl rfl rfl ?_
    refine J.gno (b := true) rfl rfl rfl rfl rfl rfl ?_
    refine J.yl (y_pick rfl rfl (fun _ => rfl) (fun h => by cases h)) rfl rfl rfl ?_
    refine J.yl (y_move rfl rfl) rfl rfl rfl ?_
    refine J.gno (b := true) rfl rfl rfl rfl rfl rfl ?_
    refine J.gno (b := true) rfl rfl rfl rfl rfl rfl ?_
    refine J.yl (y_pick rfl rfl (fun _ => rfl) (fun h => by cases h)) rfl rfl rfl ?_
    refine J.nil ?_
    refine JQ.next hK3 ?_
    refine JC.yes rfl ?_
    refine JC.seq fun K4 hK4 => ?_
    refine JC.region ?_
    refine J.yl (y_buildA (cs := hc H.zero) rfl Tryd.underlying30 Tb.zz30 Tb.sz5 rfl rfl) rfl rfl rfl ?_
    refine J.storeW 0 rfl rfl rfl rfl rfl rfl rfl Tb.sz30 (hcl _) (hcl _) (hc1 _) ?_
    refine J.yl (y_assign rfl rfl) rfl rfl rfl ?_
    refine J.nil ?_
    refine JQ.next hK4 ?_
    refine JC.ret ?_
    refine JQ.then_ret ?_
    exact ret2 rfl (r_cellA 0 rfl rfl Tb.ag30 (by rw [hcl]; exact Tb.sz30)) (r_tmp rfl) fun w hs => by rw [← hb]; exact Post.pure hs
  · refine J.yl (y_move rfl rfl) rfl rfl rfl ?_
    refine J.gyes (y_move rfl rfl) rfl rfl rfl rfl rfl rfl ?_
    refine J.ypG (y_gt rfl rfl rfl) rfl rfl rfl rfl rfl rfl (fun h2 => ?_) (fun h2 => ?_)
    · have hb := hz (hno (by omega))
      refine J.yl (y_pick rfl rfl (fun h => by cases h) (fun _ => rfl)) rfl rfl rfl ?_
      refine J.yl (y_move rfl rfl) rfl rfl rfl ?_
      refine J.gno (b := true) rfl rfl rfl rfl rfl rfl ?_
      refine J.gno (b := true) rfl rfl rfl rfl rfl rfl ?_
      refine J.yl (y_pick rfl rfl (fun _ => rfl) (fun h => by cases h)) rfl rfl rfl ?_
      refine J.yl (y_move rfl rfl) rfl rfl rfl ?_
      refine J.gno (b := true) rfl rfl rfl rfl rfl rfl ?_
      refine J.gno (b := true) rfl rfl rfl rfl rfl rfl ?_
      refine J.yl (y_pick rfl rfl (fun _ => rfl) (fun h => by cases h)) rfl rfl rfl ?_
      refine J.nil ?_
      refine JQ.next hK3 ?_
      refine JC.yes rfl ?_
      refine JC.seq fun K5 hK5 => ?_
      refine JC.region ?_
      refine J.yl (y_buildA (cs := hc H.zero) rfl Tryd.underlying30 Tb.zz30 Tb.sz5 rfl rfl) rfl rfl rfl ?_
      refine J.storeW 0 rfl rfl rfl rfl rfl rfl rfl Tb.sz30 (hcl _) (hcl _) (hc1 _) ?_
      refine J.yl (y_assign rfl rfl) rfl rfl rfl ?_
      refine J.nil ?_
      refine JQ.next hK5 ?_
      refine JC.ret ?_
      refine JQ.then_ret ?_
      exact ret2 rfl (r_cellA 0 rfl rfl Tb.ag30 (by rw [hcl]; exact Tb.sz30)) (r_tmp rfl) fun w hs => by rw [← hb]; exact Post.pure hs
    · refine J.yl (y_pick rfl rfl (fun h => by cases h) (fun _ => rfl)) rfl rfl rfl ?_
      refine J.yl (y_move rfl rfl) rfl rfl rfl ?_
      refine J.gyes (y_move rfl rfl) rfl rfl rfl rfl rfl rfl ?_
      refine J.ypG (y_lt rfl rfl rfl) rfl rfl rfl rfl rfl rfl (fun h3 => ?_) (fun h3 => ?_)
      · have hb := hz (hno (by omega))
        refine J.yl (y_pick rfl rfl (fun h => by cases h) (fun _ => rfl)) rfl rfl rfl ?_
        refine J.yl (y_move rfl rfl) rfl rfl rfl ?_
        refine J.gno (b := true) rfl rfl rfl rfl rfl rfl ?_
        refine J.gno (b := true) rfl rfl rfl rfl rfl rfl ?_
        refine J.yl (y_pick rfl rfl (fun _ => rfl) (fun h => by cases h)) rfl rfl rfl ?_
        refine J.nil ?_
        refine JQ.next hK3 ?_
        refine JC.yes rfl ?_
        refine JC.seq fun K6 hK6 => ?_
        refine JC.region ?_
        refine J.yl (y_buildA (cs := hc H.zero) rfl Tryd.underlying30 Tb.zz30 Tb.sz5 rfl rfl) rfl rfl rfl ?_
        refine J.storeW 0 rfl rfl rfl rfl rfl rfl rfl Tb.sz30 (hcl _) (hcl _) (hc1 _) ?_
        refine J.yl (y_assign rfl rfl) rfl rfl rfl ?_
        refine J.nil ?_
        refine JQ.next hK6 ?_
        refine JC.ret ?_
        refine JQ.then_ret ?_
        exact ret2 rfl (r_cellA 0 rfl rfl Tb.ag30 (by rw [hcl]; exact Tb.sz30)) (r_tmp rfl) fun w hs => by rw [← hb]; exact Post.pure hs
      · refine J.yl (y_pick rfl rfl (fun h => by cases h) (fun _ => rfl)) rfl rfl rfl ?_
        refine J.yl (y_move rfl rfl) rfl rfl rfl ?_
        refine J.gyes (y_move rfl rfl) rfl rfl rfl rfl rfl rfl ?_
        refine J.gyes (y_gt rfl rfl rfl) rfl rfl rfl rfl rfl rfl ?_
        refine J.yl (y_pick rfl rfl (fun h => by cases h) (fun _ => rfl)) rfl rfl rfl ?_
        refine J.nil ?_
        refine JQ.next hK3 ?_
        refine JC.condp rfl (fun h4 => ?_) (fun h4 => ?_)
        · have hb := hz (hno (by omega))
          refine JC.seq fun K7 hK7 => ?_
          refine JC.region ?_
          refine J.yl (y_buildA (cs := hc H.zero) rfl Tryd.underlying30 Tb.zz30 Tb.sz5 rfl rfl) rfl rfl rfl ?_
          refine J.storeW 0 rfl rfl rfl rfl rfl rfl rfl Tb.sz30 (hcl _) (hcl _) (hc1 _) ?_
          refine J.yl (y_assign rfl rfl) rfl rfl rfl ?_
          refine J.nil ?_
          refine JQ.next hK7 ?_
          refine JC.ret ?_
          refine JQ.then_ret ?_
          exact ret2 rfl (r_cellA 0 rfl rfl Tb.ag30 (by rw [hcl]; exact Tb.sz30)) (r_tmp rfl) fun w hs => by rw [← hb]; exact Post.pure hs
        · obtain ⟨a, rfl⟩ : ∃ q : Nat, a = q := ⟨a.toNat, by omega⟩
          obtain ⟨b, rfl⟩ : ∃ q : Nat, b = q := ⟨b.toNat, by omega⟩
          obtain ⟨p, hp⟩ : ∃ p, 2 ^ a = p := ⟨_, rfl⟩
          have hp1 : p ≤ 4096 := by rw [← hp]; exact Nat.le_trans (Nat.pow_le_pow_right (by decide) (show a ≤ 12 by omega)) (by decide)
          have hp0 : 0 < p := by rw [← hp]; exact Nat.pow_pos (by decide)
          have hpb : p * b ≤ 4096 * 4096 := Nat.mul_le_mul hp1 (by omega)
          have hpb' : (p : Int) * (b : Int) = ((p * b : Nat) : Int) := (Int.natCast_mul p b).symm
          have htl := tile_nat l a b
          rw [hp, Nat.succ_mul, Nat.mul_comm b p] at htl
          refine JC.skip ?_
          refine JQ.next hK2 ?_
          refine JC.seq fun K8 hK8 => ?_
          refine JC.region ?_
          refine J.yl (y_move rfl rfl) rfl rfl rfl ?_
          refine J.yl (y_shl rfl rfl rfl (by omega) (shl_one a p hp (by omega))) rfl rfl rfl ?_
          refine J.yl (y_assign rfl rfl) rfl rfl rfl ?_
          refine J.nil ?_
          refine JQ.next hK8 ?_
          refine JC.seq fun K9 hK9 => ?_
          refine JC.seq fun K10 hK10 => ?_
          refine JC.region ?_
          refine J.yl (y_move rfl rfl) rfl rfl rfl ?_
          refine J.yl (y_move rfl rfl) rfl rfl rfl ?_
          refine J.yl (y_mul64 rfl rfl rfl (by omega)) rfl rfl rfl ?_
          refine J.yl (y_move rfl rfl) rfl rfl rfl ?_
          refine J.yl (y_add64 rfl rfl rfl (by omega)) rfl rfl rfl ?_
          refine J.yl (y_move rfl rfl) rfl rfl rfl ?_
          refine J.yl (y_len rfl Tryd.underlying22 rfl) rfl rfl rfl ?_
          refine J.yl (y_gt rfl rfl rfl) rfl rfl rfl ?_
          refine J.nil ?_
          refine JQ.next hK10 ?_
          refine JC.condp rfl (fun h5 => ?_) (fun h5 => ?_)
          · have hb := hz (by rw [htl, if_neg (by omega)])
            refine JC.seq fun K11 hK11 => ?_
            refine JC.region ?_
            refine J.yl (y_buildA (cs := hc H.zero) rfl Tryd.underlying30 Tb.zz30 Tb.sz5 rfl rfl) rfl rfl rfl ?_
            refine J.storeW 0 rfl rfl rfl rfl rfl rfl rfl Tb.sz30 (hcl _) (hcl _) (hc1 _) ?_
            refine J.yl (y_assign rfl rfl) rfl rfl rfl ?_
            refine J.nil ?_
            refine JQ.next hK11 ?_
            refine JC.ret ?_
            refine JQ.then_ret ?_
            exact ret2 rfl (r_cellA 0 rfl rfl Tb.ag30 (by rw [hcl]; exact Tb.sz30)) (r_tmp rfl) fun w hs => by rw [← hb]; exact Post.pure hs
          · rw [if_pos (by omega)] at htl
            refine JC.skip ?_
            refine JQ.next hK9 ?_
            refine JC.seq fun K12 hK12 => ?_
            refine JC.region ?_
            refine J.yl (y_move rfl rfl) rfl rfl rfl ?_
            refine J.yl (y_move rfl rfl) rfl rfl rfl ?_
            refine J.yl (y_move rfl rfl) rfl rfl rfl ?_
            refine J.yl (y_mul64 rfl rfl rfl (by omega)) rfl rfl rfl ?_
            refine J.yl (y_move rfl rfl) rfl rfl rfl ?_
            refine J.yl (y_move rfl rfl) rfl rfl rfl ?_
            refine J.yl (y_mul64 rfl rfl rfl (by omega)) rfl rfl rfl ?_
            refine J.yl (y_move rfl rfl) rfl rfl rfl ?_
            refine J.yl (y_add64 rfl rfl rfl (by omega)) rfl rfl rfl ?_
            refine J.yl (y_cutN (p * b) (p * b + p) rfl Tryd.underlying22 Tb.sz30 rfl rfl rfl (by omega) (by omega) (by omega)) rfl rfl rfl ?_
            refine J.callv rfl rfl rfl rfl Tb.cl86 rfl (rroot_spec p (seg l (p * b) (p * b + p)) _ _ _ (by rw [seg_len _ _ _ (by omega)]; omega) (by rw [seg_len _ _ _ (by omega)]) (by omega) (by omega) _ (fun w h => ((hA w h.1).htake (p * b + p)).hdrop (p * b) k (by rw [List.length_take]; omega) (by rw [List.length_take]; omega))) ?_
            refine J.storeW 0 rfl rfl rfl rfl rfl rfl rfl Tb.sz30 (hcl _) (hcl _) (hc1 _) ?_
            refine J.yl (y_assign rfl rfl) rfl rfl rfl ?_
            refine J.nil ?_
            refine JQ.next hK12 ?_
            refine JC.ret ?_
            exact ret2 rfl (r_cellA 0 rfl rfl Tb.ag30 (by rw [hcl]; exact Tb.sz30)) (r_tmp rfl) fun w hs => by rw [htl]; exact Post.pure hs
end Go.Proofs.YtjkfeonbioccmaaDoor
namespace Go.Proofs.YtjkfeonbioccmaaDoor
open Go Go.Sx Go.RowKit
set_option linter.unusedVariables false
set_option linter.unusedSimpArgs false
set_option maxRecDepth 100000
set_option maxHeartbeats 2000000
variable {Gl F : World → Prop}
theorem split3' : split 3 = 2 := by
  rw [split, if_neg (by decide), show Nat.log2 (3 - 1) = 1 from by rw [Nat.log2_eq_iff (by decide)]; decide]
theorem root3' (a b c : H) : root [a, b, c] = node (node a b) c := by
  rw [root_two [a, b, c] (by show 2 ≤ 3; decide), show split [a, b, c].length = 2 from split3']
  show node (root [a, b]) (root [c]) = _
  rw [root2, root_one]
theorem root4' (a b c d : H) : root [a, b, c, d] = node (node a b) (node c d) := by
  rw [root_two [a, b, c, d] (by show 2 ≤ 4; decide), show split [a, b, c, d].length = 2 from split4]
  show node (root [a, b]) (root [c, d]) = _
  rw [root2, root2]
theorem path5_2 (a b c d e : H) : path [a, b, c, d, e] 2 = [d, node a b, e] := by
  rw [path_left _ 2 (by show 2 ≤ 5; decide) (by show 2 < split 5; rw [split5]; decide), show split [a, b, c, d, e].length = 4 from split5]
  show path [a, b, c, d] 2 ++ [root [e]] = _
  rw [path_right _ 2 (by show 2 ≤ 4; decide) (by show ¬ 2 < split 4; rw [split4]; decide), show split [a, b, c, d].length = 2 from split4]
  show (path [c, d] 0 ++ [root [a, b]]) ++ [root [e]] = _
  rw [path_left _ 0 (by show 2 ≤ 2; decide) (by show 0 < split 2; rw [split2]; decide), show split [c, d].length = 1 from split2]
  show ((path [c] 0 ++ [root [d]]) ++ [root [a, b]]) ++ [root [e]] = _
  rw [path_one [c] 0 (Nat.le_refl _), root2, root_one, root_one]
  rfl
theorem tile5_11 (a b c d e : H) : tile [a, b, c, d, e] 1 1 = some (node c d) := by
  rw [show tile [a, b, c, d, e] 1 1 = some (root [c, d]) from if_pos (show 0 ≤ (1 : Int) ∧ 0 ≤ (1 : Int) ∧ (Int.toNat 1 + 1) * 2 ^ Int.toNat 1 ≤ 5 by decide), root2]
theorem tile5_12 (a b c d e : H) : tile [a, b, c, d, e] 1 2 = none := if_neg (show ¬ (0 ≤ (1 : Int) ∧ 0 ≤ (2 : Int) ∧ (Int.toNat 2 + 1) * 2 ^ Int.toNat 1 ≤ 5) by decide)
theorem tile5_20 (a b c d e : H) : tile [a, b, c, d, e] 2 0 = some (node (node a b) (node c d)) := by
  rw [show tile [a, b, c, d, e] 2 0 = some (root [a, b, c, d]) from if_pos (show 0 ≤ (2 : Int) ∧ 0 ≤ (0 : Int) ∧ (Int.toNat 0 + 1) * 2 ^ Int.toNat 2 ≤ 5 by decide), root4']
theorem trt5_3 (a b c d e : H) : trt [a, b, c, d, e] 3 = node (node a b) c := by
  rw [show trt [a, b, c, d, e] 3 = root [a, b, c] from if_neg (show ¬ ((3 : Int) < 0 ∨ ((5 : Nat) : Int) < 3) by decide), root3']
theorem tpth5 (a b c d e : H) : tpth [a, b, c, d, e] 2 5 = [d, node a b, e] := by
  rw [show tpth [a, b, c, d, e] 2 5 = path [a, b, c, d, e] 2 from if_neg (show ¬ ((5 : Int) < 0 ∨ ((5 : Nat) : Int) < 5 ∨ (2 : Int) < 0 ∨ (5 : Int) ≤ 2) by decide), path5_2]
theorem tpf5 (a b c d e : H) : tpf [a, b, c, d, e] 3 5 = [c, d, node a b, e] := by
  have := (prf_tpf [a, b, c, d, e] 3 5 (show 5 ≤ 5 by decide) (by decide)).1
  rw [show List.take 5 [a, b, c, d, e] = [a, b, c, d, e] from rfl, prf5_3] at this
  exact this.symm
theorem ab_nz (a b c d e : H) (h : someL 5 6 = [a, b, c, d, e]) : node a b ≠ H.zero := by
  have h1 : ((node ((someL 5 6)[0]?.getD H.zero) ((someL 5 6)[1]?.getD H.zero)).b.headD 0 == 206) = true := by kernel_rfl
  rw [h] at h1
  intro h2
  rw [show ([a, b, c, d, e][0]?.getD H.zero) = a from rfl, show ([a, b, c, d, e][1]?.getD H.zero) = b from rfl, h2] at h1
  exact absurd h1 (by decide)
theorem tnode_fnE (T m n : Nat) (es : Array MapEntry) (clock : Nat) (f : Int → Int → Option H) (hM : Mp es f) (a b : Int) (ha : in64 a) (hb : in64 b) (x : H) (v : Bool) (hx : (f a b).getD H.zero = x) (hv' : (f a b).isSome = v) (hF : ∀ w, F w → Tt T m n es clock w) : PureFn Tryd.prog Gl 33 [.pointer (some ⟨T, 0, none⟩), .int .i64 a, .int .i64 b] F (.tuple #[hv x, .bool v]) := by
  subst hx hv'; exact tnode_fn T m n es clock f hM a b ha hb hF
theorem tRoot_fnE (T m n : Nat) (es : Array MapEntry) (clock : Nat) (l : List H) (hM : Mp es (tile l)) (hn : l.length = n) (hN : n ≤ 4096) (z : Int) (x : H) (v : Int) (hx : trt l z = x) (hv' : wthE n z = v) (hF : ∀ w, F w → Tt T m n es clock w) :
    PureFn Tryd.prog Gs 35 [.pointer (some ⟨T, 0, none⟩), .int .i64 z] F (.tuple #[hv x, .int .i64 v]) := by
  subst hx hv'; exact tRoot_fn T m n es clock l hM hn hN z hF
theorem tPath_fnE (T m n : Nat) (es : Array MapEntry) (clock : Nat) (l : List H) (hM : Mp es (tile l)) (hn : l.length = n) (hN : n ≤ 4096) (i z : Int) (q : List H) (x : Int) (hq : tpth l i z = q) (hx : tpthE l i z = x) (hF : ∀ w, F w → Tt T m n es clock w) :
    FnSpec Tryd.prog Gs 37 [.pointer (some ⟨T, 0, none⟩), .int .i64 i, .int .i64 z] [] F (ι := Option Addr × Nat) (fun i => q.length ≤ i.2) (fun i => .tuple #[.slice i.1 q.length i.2, .int .i64 x]) (OwnL q) (fun _ _ => True) := by
  subst hq hx; exact tPath_fn T m n es clock l hM hn hN i z hF
theorem tProof_fnE (T m n : Nat) (es : Array MapEntry) (clock : Nat) (l : List H) (hM : Mp es (tile l)) (hn : l.length = n) (hN : n ≤ 4096) (i z : Int) (q : List H) (x : Int) (hq : tpf l i z = q) (hx : tpfE l i z = x) (hF : ∀ w, F w → Tt T m n es clock w) :
    FnSpec Tryd.prog Gs 39 [.pointer (some ⟨T, 0, none⟩), .int .i64 i, .int .i64 z] [] F (ι := Option Addr × Nat) (fun i => q.length ≤ i.2) (fun i => .tuple #[.slice i.1 q.length i.2, .int .i64 x]) (OwnL q) (fun _ _ => True) := by
  subst hq hx; exact tProof_fn T m n es clock l hM hn hN i z hF
end Go.Proofs.YtjkfeonbioccmaaDoor
namespace Go.Proofs.YtjkfeonbioccmaaDoor
open Go Go.Sx Go.RowKit
set_option linter.unusedVariables false
set_option linter.unusedSimpArgs false
set_option maxRecDepth 100000
set_option maxHeartbeats 4000000
variable {Gl F : World → Prop}
end Go.Proofs.YtjkfeonbioccmaaDoor
namespace Go.Sx
theorem D.three {c : Cx} {ops : Array Oper} {Q : Exit → Act → World → Prop} {Cs : List Chunk} {Fs F : World → Prop} {fuel : Nat} {listed : Array Bool} {tm : Env} {C : List Chunk} (i j k : Nat) (hri : Region.ready .any ops listed = [i, j, k]) (h : DS c ops Q Cs Fs fuel listed tm C F i) (h' : DS c ops Q Cs Fs fuel listed tm C F j) (h3 : DS c ops Q Cs Fs fuel listed tm C F k) : D c ops Q Cs Fs (fuel + 1) listed tm C F := fun a w ha hst hS => by
  refine ⟨fun h0 => absurd (hri ▸ h0) (by simp), fun q hq => ?_⟩
  rw [hri] at hq
  have hq' : q = i ∨ q = j ∨ q = k := by simpa using hq
  rcases hq' with rfl | rfl | rfl
  · exact h a w ha hst hS
  · exact h' a w ha hst hS
  · exact h3 a w ha hst hS
end Go.Sx
namespace Go.Proofs.YtjkfeonbioccmaaDoor
open Go Go.Sx Go.RowKit
variable {Gl F : World → Prop}
set_option maxRecDepth 100000
set_option maxHeartbeats 40000000
set_option linter.unusedVariables false
-- AUX
theorem tiled_fn : PureFn Tryd.prog Gs 31 [] F (.bool true) := by
  obtain ⟨a, b, c, d, e, hl⟩ : ∃ a b c d e, someL 5 6 = [a, b, c, d, e] := ⟨_, _, _, _, _, rfl⟩
  have hnz := ab_nz a b c d e hl
  have hpa := tpth5 a b c d e
  have hpf := tpf5 a b c d e
  have ht11 := tile5_11 a b c d e
  have ht12 := tile5_12 a b c d e
  have ht20 := tile5_20 a b c d e
  have htr := trt5_3 a b c d e
  obtain ⟨ab, eab⟩ : ∃ x, node a b = x := ⟨_, rfl⟩
  obtain ⟨cd, ecd⟩ : ∃ x, node c d = x := ⟨_, rfl⟩
  obtain ⟨abcd, eabcd⟩ : ∃ x, node ab cd = x := ⟨_, rfl⟩
  obtain ⟨abc, eabc⟩ : ∃ x, node ab c = x := ⟨_, rfl⟩
  rw [eab] at hnz hpa hpf
  rw [ecd] at ht11
  rw [eab, ecd, eabcd] at ht20
  rw [eab, eabc] at htr
  refine FnSpec.intro Tryd.func31 rfl Tryd.ntmps31 rfl fun X M w => ?_
  refine JC.seq fun K1 hK1 => ?_
  refine JC.region ?_
  refine J.yl (y_assign rfl rfl) rfl rfl rfl ?_
  refine J.nil ?_
  refine JQ.next hK1 ?_
  refine JC.seq fun K2 hK2 => ?_
  refine JC.region ?_
  refine J.callR (Cin := []) rfl rfl rfl rfl Tb.cl29 rfl rfl (some_fnE 5 5 6 [a, b, c, d, e] hl rfl (by omega)) ?_
  rintro ⟨A, k⟩ hk
  refine J.yl (y_assign rfl rfl) rfl rfl rfl ?_
  refine J.nil ?_
  refine JQ.next hK2 ?_
  refine JC.seq fun K3 hK3 => ?_
  refine JC.region ?_
  refine J.yl (y_move rfl rfl) rfl rfl rfl ?_
  refine J.callR (Cin := []) rfl rfl rfl rfl Tb.cl32 rfl rfl (of_fn [a, b, c, d, e] A 5 k rfl hk (by omega) (fun w h => ckrow 0 rfl h)) ?_
  rintro ⟨T, m, es, clock⟩ hM
  refine J.yl (y_move rfl rfl) rfl rfl rfl ?_
  refine J.yl (y_extract rfl rfl rfl) rfl rfl rfl ?_
  refine J.yl (y_extract rfl rfl rfl) rfl rfl rfl ?_
  refine J.yl (y_assign rfl rfl) rfl rfl rfl ?_
  refine J.yl (y_assign rfl rfl) rfl rfl rfl ?_
  refine J.nil ?_
  refine JQ.next hK3 ?_
  refine JC.seq fun K4 hK4 => ?_
  refine JC.seq fun K5 hK5 => ?_
  refine JC.region ?_
  refine J.yl (y_move rfl rfl) rfl rfl rfl ?_
  refine J.yl ((y_not rfl rfl).to rfl) rfl rfl rfl ?_
  refine J.nil ?_
  refine JQ.next hK5 ?_
  refine JC.no rfl ?_
  refine JC.skip ?_
  refine JQ.next hK4 ?_
  refine JC.seq fun K6 hK6 => ?_
  refine JC.cutE (σ := Nat × Nat) (M := fun q => [(4, .pointer (some ⟨q.1, 0, none⟩)), (5, .pointer (some ⟨q.2, 0, none⟩))]) (kp := [(1, _), (2, _)]) (hkp := (okE_cons rfl (okE_cons rfl okE_nil))) (Dc := fun q => [.box q.2 30 (hc cd), .box q.1 30 (hc ab), .box T 57 [.map (some m), .int .i64 ((5 : Nat) : Int)], .mp m (.map es clock), .row (.slice A 5 k) 30 32 5 (hcs [a, b, c, d, e])]) (H := fun _ => F) (Ψ := fun _ => True) (fun K7 againK7 => ?_) (fun sK7 hK7 => ?_)
  refine JC.drawM [true, true, true] (by as_aux_lemma => kernel_rfl) ?_
  refine D.take 0 (y_move rfl rfl) rfl rfl rfl rfl (by as_aux_lemma => kernel_rfl) (by as_aux_lemma => kernel_rfl) (by as_aux_lemma => kernel_rfl) (PQ.next (PQ.next PQ.body)) ?_
  refine D.take 3 (y_move rfl rfl) rfl rfl rfl rfl (by as_aux_lemma => kernel_rfl) (by as_aux_lemma => kernel_rfl) (by as_aux_lemma => kernel_rfl) (PQ.next (PQ.next PQ.body)) ?_
  refine D.take 7 (y_move rfl rfl) rfl rfl rfl rfl (by as_aux_lemma => kernel_rfl) (by as_aux_lemma => kernel_rfl) (by as_aux_lemma => kernel_rfl) (PQ.next (PQ.next PQ.body)) ?_
  refine D.take 10 (y_move rfl rfl) rfl rfl rfl rfl (by as_aux_lemma => kernel_rfl) (by as_aux_lemma => kernel_rfl) (by as_aux_lemma => kernel_rfl) (PQ.next (PQ.next PQ.body)) ?_
  · refine D.take 1 (y_hidx (n := 5) (l := [a, b, c, d, e]) 0 rfl Tryd.underlying22 Tb.sz30 rfl rfl rfl rfl (by omega) (fun w hs => strow hs 2 rfl)) rfl rfl rfl rfl (by as_aux_lemma => kernel_rfl) (by as_aux_lemma => kernel_rfl) (by as_aux_lemma => kernel_rfl) (PQ.next (PQ.next PQ.body)) ?_
    refine D.take 2 (y_hld (l := [a, b, c, d, e]) a rfl Tb.ag30 Tb.sz30 rfl rfl (fun w hs => strow hs 2 rfl)) rfl rfl rfl rfl (by as_aux_lemma => kernel_rfl) (by as_aux_lemma => kernel_rfl) (by as_aux_lemma => kernel_rfl) (PQ.next (PQ.next PQ.body)) ?_
    refine D.take 4 (y_hidx (n := 5) (l := [a, b, c, d, e]) 1 rfl Tryd.underlying22 Tb.sz30 rfl rfl rfl rfl (by omega) (fun w hs => strow hs 2 rfl)) rfl rfl rfl rfl (by as_aux_lemma => kernel_rfl) (by as_aux_lemma => kernel_rfl) (by as_aux_lemma => kernel_rfl) (PQ.next (PQ.next PQ.body)) ?_
    refine D.take 5 (y_hld (l := [a, b, c, d, e]) b rfl Tb.ag30 Tb.sz30 rfl rfl (fun w hs => strow hs 2 rfl)) rfl rfl rfl rfl (by as_aux_lemma => kernel_rfl) (by as_aux_lemma => kernel_rfl) (by as_aux_lemma => kernel_rfl) (PQ.next (PQ.next PQ.body)) ?_
    refine D.take 8 (y_hidx (n := 5) (l := [a, b, c, d, e]) 2 rfl Tryd.underlying22 Tb.sz30 rfl rfl rfl rfl (by omega) (fun w hs => strow hs 2 rfl)) rfl rfl rfl rfl (by as_aux_lemma => kernel_rfl) (by as_aux_lemma => kernel_rfl) (by as_aux_lemma => kernel_rfl) (PQ.next (PQ.next PQ.body)) ?_
    refine D.take 9 (y_hld (l := [a, b, c, d, e]) c rfl Tb.ag30 Tb.sz30 rfl rfl (fun w hs => strow hs 2 rfl)) rfl rfl rfl rfl (by as_aux_lemma => kernel_rfl) (by as_aux_lemma => kernel_rfl) (by as_aux_lemma => kernel_rfl) (PQ.next (PQ.next PQ.body)) ?_
    refine D.take 11 (y_hidx (n := 5) (l := [a, b, c, d, e]) 3 rfl Tryd.underlying22 Tb.sz30 rfl rfl rfl rfl (by omega) (fun w hs => strow hs 2 rfl)) rfl rfl rfl rfl (by as_aux_lemma => kernel_rfl) (by as_aux_lemma => kernel_rfl) (by as_aux_lemma => kernel_rfl) (PQ.next (PQ.next PQ.body)) ?_
    refine D.take 12 (y_hld (l := [a, b, c, d, e]) d rfl Tb.ag30 Tb.sz30 rfl rfl (fun w hs => strow hs 2 rfl)) rfl rfl rfl rfl (by as_aux_lemma => kernel_rfl) (by as_aux_lemma => kernel_rfl) (by as_aux_lemma => kernel_rfl) (PQ.next (PQ.next PQ.body)) ?_
    refine D.three 6 14 15 (by as_aux_lemma => kernel_rfl) ?_ ?_ ?_
    · refine DS.ofJ rfl fun KhK9 hK9 => ?_
      refine J.callv rfl rfl rfl rfl Tb.cl105 rfl ((node_spec a b).to (by rw [eab])) ?_
      refine J.nil ?_
      refine hK9 _ _ _ (fun w hs => hs.mask [true, true, true]) ?_
      refine D.three 13 14 15 (by as_aux_lemma => kernel_rfl) ?_ ?_ ?_
      · refine DS.ofJ rfl fun KhK11 hK11 => ?_
        refine J.callv rfl rfl rfl rfl Tb.cl105 rfl ((node_spec c d).to (by rw [ecd])) ?_
        refine J.nil ?_
        refine hK11 _ _ _ (fun w hs => hs.mask [true, true, true]) ?_
        refine D.two 14 15 (by as_aux_lemma => kernel_rfl) ?_ ?_
        · refine DS.ofJ rfl fun KhK12 hK12 => ?_
          refine J.alloc rfl rfl rfl rfl Tb.zz30 rfl fun g4 => ?_
          refine J.nil ?_
          refine hK12 _ _ _ (fun w hs => hs.mask [false, true, true, true]) ?_
          refine D.ofJ 15 (by as_aux_lemma => kernel_rfl) rfl fun KhK13 hK13 => ?_
          refine J.alloc rfl rfl rfl rfl Tb.zz30 rfl fun g5 => ?_
          refine J.nil ?_
          refine hK13 _ _ _ (fun w hs => hs.mask [false, false, true, true, true]) ?_
          refine D.ofJ 16 (by as_aux_lemma => kernel_rfl) rfl fun KhK14 hK14 => ?_
          refine J.storeW 1 rfl rfl rfl rfl rfl rfl rfl Tb.sz30 (hcl _) (hcl _) (hc1 _) ?_
          refine J.nil ?_
          refine hK14 _ _ _ (fun w hs => hs.mask [false, false, true, true, true]) ?_
          refine D.ofJ 17 (by as_aux_lemma => kernel_rfl) rfl fun KhK15 hK15 => ?_
          refine J.storeW 0 rfl rfl rfl rfl rfl rfl rfl Tb.sz30 (hcl _) (hcl _) (hc1 _) ?_
          refine J.nil ?_
          refine hK15 _ _ _ (fun w hs => hs.mask [false, false, true, true, true]) ?_
          refine D.done (by as_aux_lemma => kernel_rfl) ?_
          refine againK7 (g4, g5) _ trivial (okE_cons rfl (okE_cons rfl okE_nil)) (okE_cons rfl (okE_cons rfl okE_nil))
        · refine DS.ofJ rfl fun KhK16 hK16 => ?_
          refine J.alloc rfl rfl rfl rfl Tb.zz30 rfl fun g5 => ?_
          refine J.nil ?_
          refine hK16 _ _ _ (fun w hs => hs.mask [false, true, true, true]) ?_
          refine D.ofJ 14 (by as_aux_lemma => kernel_rfl) rfl fun KhK17 hK17 => ?_
          refine J.alloc rfl rfl rfl rfl Tb.zz30 rfl fun g4 => ?_
          refine J.nil ?_
          refine hK17 _ _ _ (fun w hs => hs.mask [false, false, true, true, true]) ?_
          refine D.ofJ 16 (by as_aux_lemma => kernel_rfl) rfl fun KhK18 hK18 => ?_
          refine J.storeW 0 rfl rfl rfl rfl rfl rfl rfl Tb.sz30 (hcl _) (hcl _) (hc1 _) ?_
          refine J.nil ?_
          refine hK18 _ _ _ (fun w hs => hs.mask [false, false, true, true, true]) ?_
          refine D.ofJ 17 (by as_aux_lemma => kernel_rfl) rfl fun KhK19 hK19 => ?_
          refine J.storeW 1 rfl rfl rfl rfl rfl rfl rfl Tb.sz30 (hcl _) (hcl _) (hc1 _) ?_
          refine J.nil ?_
          refine hK19 _ _ _ (fun w hs => hs.mask [false, false, true, true, true]) ?_
          refine D.done (by as_aux_lemma => kernel_rfl) ?_
          refine JQ.front 1 rfl ?_
          refine againK7 (g4, g5) _ trivial (okE_cons rfl (okE_cons rfl okE_nil)) (okE_cons rfl (okE_cons rfl okE_nil))
      · refine DS.ofJ rfl fun KhK20 hK20 => ?_
        refine J.alloc rfl rfl rfl rfl Tb.zz30 rfl fun g4 => ?_
        refine J.nil ?_
        refine hK20 _ _ _ (fun w hs => hs.mask [false, true, true, true]) ?_
        refine D.two 13 15 (by as_aux_lemma => kernel_rfl) ?_ ?_
        · refine DS.ofJ rfl fun KhK22 hK22 => ?_
          refine J.callv rfl rfl rfl rfl Tb.cl105 rfl ((node_spec c d).to (by rw [ecd])) ?_
          refine J.nil ?_
          refine hK22 _ _ _ (fun w hs => hs.mask [false, true, true, true]) ?_
          refine D.ofJ 15 (by as_aux_lemma => kernel_rfl) rfl fun KhK23 hK23 => ?_
          refine J.alloc rfl rfl rfl rfl Tb.zz30 rfl fun g5 => ?_
          refine J.nil ?_
          refine hK23 _ _ _ (fun w hs => hs.mask [false, false, true, true, true]) ?_
          refine D.ofJ 16 (by as_aux_lemma => kernel_rfl) rfl fun KhK24 hK24 => ?_
          refine J.storeW 1 rfl rfl rfl rfl rfl rfl rfl Tb.sz30 (hcl _) (hcl _) (hc1 _) ?_
          refine J.nil ?_
          refine hK24 _ _ _ (fun w hs => hs.mask [false, false, true, true, true]) ?_
          refine D.ofJ 17 (by as_aux_lemma => kernel_rfl) rfl fun KhK25 hK25 => ?_
          refine J.storeW 0 rfl rfl rfl rfl rfl rfl rfl Tb.sz30 (hcl _) (hcl _) (hc1 _) ?_
          refine J.nil ?_
          refine hK25 _ _ _ (fun w hs => hs.mask [false, false, true, true, true]) ?_
          refine D.done (by as_aux_lemma => kernel_rfl) ?_
          refine againK7 (g4, g5) _ trivial (okE_cons rfl (okE_cons rfl okE_nil)) (okE_cons rfl (okE_cons rfl okE_nil))
        · refine DS.ofJ rfl fun KhK26 hK26 => ?_
          refine J.alloc rfl rfl rfl rfl Tb.zz30 rfl fun g5 => ?_
          refine J.nil ?_
          refine hK26 _ _ _ (fun w hs => hs.mask [false, false, true, true, true]) ?_
          refine D.ofJ 13 (by as_aux_lemma => kernel_rfl) rfl fun KhK28 hK28 => ?_
          refine J.callv rfl rfl rfl rfl Tb.cl105 rfl ((node_spec c d).to (by rw [ecd])) ?_
          refine J.nil ?_
          refine hK28 _ _ _ (fun w hs => hs.mask [false, false, true, true, true]) ?_
          refine D.ofJ 16 (by as_aux_lemma => kernel_rfl) rfl fun KhK29 hK29 => ?_
          refine J.storeW 1 rfl rfl rfl rfl rfl rfl rfl Tb.sz30 (hcl _) (hcl _) (hc1 _) ?_
          refine J.nil ?_
          refine hK29 _ _ _ (fun w hs => hs.mask [false, false, true, true, true]) ?_
          refine D.ofJ 17 (by as_aux_lemma => kernel_rfl) rfl fun KhK30 hK30 => ?_
          refine J.storeW 0 rfl rfl rfl rfl rfl rfl rfl Tb.sz30 (hcl _) (hcl _) (hc1 _) ?_
          refine J.nil ?_
          refine hK30 _ _ _ (fun w hs => hs.mask [false, false, true, true, true]) ?_
          refine D.done (by as_aux_lemma => kernel_rfl) ?_
          refine againK7 (g4, g5) _ trivial (okE_cons rfl (okE_cons rfl okE_nil)) (okE_cons rfl (okE_cons rfl okE_nil))
      · refine DS.ofJ rfl fun KhK31 hK31 => ?_
        refine J.alloc rfl rfl rfl rfl Tb.zz30 rfl fun g5 => ?_
        refine J.nil ?_
        refine hK31 _ _ _ (fun w hs => hs.mask [false, true, true, true]) ?_
        refine D.two 13 14 (by as_aux_lemma => kernel_rfl) ?_ ?_
        · refine DS.ofJ rfl fun KhK33 hK33 => ?_
          refine J.callv rfl rfl rfl rfl Tb.cl105 rfl ((node_spec c d).to (by rw [ecd])) ?_
          refine J.nil ?_
          refine hK33 _ _ _ (fun w hs => hs.mask [false, true, true, true]) ?_
          refine D.ofJ 14 (by as_aux_lemma => kernel_rfl) rfl fun KhK34 hK34 => ?_
          refine J.alloc rfl rfl rfl rfl Tb.zz30 rfl fun g4 => ?_
          refine J.nil ?_
          refine hK34 _ _ _ (fun w hs => hs.mask [false, false, true, true, true]) ?_
          refine D.ofJ 16 (by as_aux_lemma => kernel_rfl) rfl fun KhK35 hK35 => ?_
          refine J.storeW 0 rfl rfl rfl rfl rfl rfl rfl Tb.sz30 (hcl _) (hcl _) (hc1 _) ?_
          refine J.nil ?_
          refine hK35 _ _ _ (fun w hs => hs.mask [false, false, true, true, true]) ?_
          refine D.ofJ 17 (by as_aux_lemma => kernel_rfl) rfl fun KhK36 hK36 => ?_
          refine J.storeW 1 rfl rfl rfl rfl rfl rfl rfl Tb.sz30 (hcl _) (hcl _) (hc1 _) ?_
          refine J.nil ?_
          refine hK36 _ _ _ (fun w hs => hs.mask [false, false, true, true, true]) ?_
          refine D.done (by as_aux_lemma => kernel_rfl) ?_
          refine JQ.front 1 rfl ?_
          refine againK7 (g4, g5) _ trivial (okE_cons rfl (okE_cons rfl okE_nil)) (okE_cons rfl (okE_cons rfl okE_nil))
        · refine DS.ofJ rfl fun KhK37 hK37 => ?_
          refine J.alloc rfl rfl rfl rfl Tb.zz30 rfl fun g4 => ?_
          refine J.nil ?_
          refine hK37 _ _ _ (fun w hs => hs.mask [false, false, true, true, true]) ?_
          refine D.ofJ 13 (by as_aux_lemma => kernel_rfl) rfl fun KhK39 hK39 => ?_
          refine J.callv rfl rfl rfl rfl Tb.cl105 rfl ((node_spec c d).to (by rw [ecd])) ?_
          refine J.nil ?_
          refine hK39 _ _ _ (fun w hs => hs.mask [false, false, true, true, true]) ?_
          refine D.ofJ 16 (by as_aux_lemma => kernel_rfl) rfl fun KhK40 hK40 => ?_
          refine J.storeW 0 rfl rfl rfl rfl rfl rfl rfl Tb.sz30 (hcl _) (hcl _) (hc1 _) ?_
          refine J.nil ?_
          refine hK40 _ _ _ (fun w hs => hs.mask [false, false, true, true, true]) ?_
          refine D.ofJ 17 (by as_aux_lemma => kernel_rfl) rfl fun KhK41 hK41 => ?_
          refine J.storeW 1 rfl rfl rfl rfl rfl rfl rfl Tb.sz30 (hcl _) (hcl _) (hc1 _) ?_
          refine J.nil ?_
          refine hK41 _ _ _ (fun w hs => hs.mask [false, false, true, true, true]) ?_
          refine D.done (by as_aux_lemma => kernel_rfl) ?_
          refine JQ.front 1 rfl ?_
          refine againK7 (g4, g5) _ trivial (okE_cons rfl (okE_cons rfl okE_nil)) (okE_cons rfl (okE_cons rfl okE_nil))
    · refine DS.ofJ rfl fun KhK42 hK42 => ?_
      refine J.alloc rfl rfl rfl rfl Tb.zz30 rfl fun g4 => ?_
      refine J.nil ?_
      refine hK42 _ _ _ (fun w hs => hs.mask [false, true, true, true]) ?_
      refine D.two 6 15 (by as_aux_lemma => kernel_rfl) ?_ ?_
      · refine DS.ofJ rfl fun KhK44 hK44 => ?_
        refine J.callv rfl rfl rfl rfl Tb.cl105 rfl ((node_spec a b).to (by rw [eab])) ?_
        refine J.nil ?_
        refine hK44 _ _ _ (fun w hs => hs.mask [false, true, true, true]) ?_
        refine D.two 13 15 (by as_aux_lemma => kernel_rfl) ?_ ?_
        · refine DS.ofJ rfl fun KhK46 hK46 => ?_
          refine J.callv rfl rfl rfl rfl Tb.cl105 rfl ((node_spec c d).to (by rw [ecd])) ?_
          refine J.nil ?_
          refine hK46 _ _ _ (fun w hs => hs.mask [false, true, true, true]) ?_
          refine D.ofJ 15 (by as_aux_lemma => kernel_rfl) rfl fun KhK47 hK47 => ?_
          refine J.alloc rfl rfl rfl rfl Tb.zz30 rfl fun g5 => ?_
          refine J.nil ?_
          refine hK47 _ _ _ (fun w hs => hs.mask [false, false, true, true, true]) ?_
          refine D.ofJ 16 (by as_aux_lemma => kernel_rfl) rfl fun KhK48 hK48 => ?_
          refine J.storeW 1 rfl rfl rfl rfl rfl rfl rfl Tb.sz30 (hcl _) (hcl _) (hc1 _) ?_
          refine J.nil ?_
          refine hK48 _ _ _ (fun w hs => hs.mask [false, false, true, true, true]) ?_
          refine D.ofJ 17 (by as_aux_lemma => kernel_rfl) rfl fun KhK49 hK49 => ?_
          refine J.storeW 0 rfl rfl rfl rfl rfl rfl rfl Tb.sz30 (hcl _) (hcl _) (hc1 _) ?_
          refine J.nil ?_
          refine hK49 _ _ _ (fun w hs => hs.mask [false, false, true, true, true]) ?_
          refine D.done (by as_aux_lemma => kernel_rfl) ?_
          refine againK7 (g4, g5) _ trivial (okE_cons rfl (okE_cons rfl okE_nil)) (okE_cons rfl (okE_cons rfl okE_nil))
        · refine DS.ofJ rfl fun KhK50 hK50 => ?_
          refine J.alloc rfl rfl rfl rfl Tb.zz30 rfl fun g5 => ?_
          refine J.nil ?_
          refine hK50 _ _ _ (fun w hs => hs.mask [false, false, true, true, true]) ?_
          refine D.ofJ 13 (by as_aux_lemma => kernel_rfl) rfl fun KhK52 hK52 => ?_
          refine J.callv rfl rfl rfl rfl Tb.cl105 rfl ((node_spec c d).to (by rw [ecd])) ?_
          refine J.nil ?_
          refine hK52 _ _ _ (fun w hs => hs.mask [false, false, true, true, true]) ?_
          refine D.ofJ 16 (by as_aux_lemma => kernel_rfl) rfl fun KhK53 hK53 => ?_
          refine J.storeW 1 rfl rfl rfl rfl rfl rfl rfl Tb.sz30 (hcl _) (hcl _) (hc1 _) ?_
          refine J.nil ?_
          refine hK53 _ _ _ (fun w hs => hs.mask [false, false, true, true, true]) ?_
          refine D.ofJ 17 (by as_aux_lemma => kernel_rfl) rfl fun KhK54 hK54 => ?_
          refine J.storeW 0 rfl rfl rfl rfl rfl rfl rfl Tb.sz30 (hcl _) (hcl _) (hc1 _) ?_
          refine J.nil ?_
          refine hK54 _ _ _ (fun w hs => hs.mask [false, false, true, true, true]) ?_
          refine D.done (by as_aux_lemma => kernel_rfl) ?_
          refine againK7 (g4, g5) _ trivial (okE_cons rfl (okE_cons rfl okE_nil)) (okE_cons rfl (okE_cons rfl okE_nil))
      · refine DS.ofJ rfl fun KhK55 hK55 => ?_
        refine J.alloc rfl rfl rfl rfl Tb.zz30 rfl fun g5 => ?_
        refine J.nil ?_
        refine hK55 _ _ _ (fun w hs => hs.mask [false, false, true, true, true]) ?_
        refine D.ofJ 6 (by as_aux_lemma => kernel_rfl) rfl fun KhK57 hK57 => ?_
        refine J.callv rfl rfl rfl rfl Tb.cl105 rfl ((node_spec a b).to (by rw [eab])) ?_
        refine J.nil ?_
        refine hK57 _ _ _ (fun w hs => hs.mask [false, false, true, true, true]) ?_
        refine D.ofJ 13 (by as_aux_lemma => kernel_rfl) rfl fun KhK59 hK59 => ?_
        refine J.callv rfl rfl rfl rfl Tb.cl105 rfl ((node_spec c d).to (by rw [ecd])) ?_
        refine J.nil ?_
        refine hK59 _ _ _ (fun w hs => hs.mask [false, false, true, true, true]) ?_
        refine D.ofJ 16 (by as_aux_lemma => kernel_rfl) rfl fun KhK60 hK60 => ?_
        refine J.storeW 1 rfl rfl rfl rfl rfl rfl rfl Tb.sz30 (hcl _) (hcl _) (hc1 _) ?_
        refine J.nil ?_
        refine hK60 _ _ _ (fun w hs => hs.mask [false, false, true, true, true]) ?_
        refine D.ofJ 17 (by as_aux_lemma => kernel_rfl) rfl fun KhK61 hK61 => ?_
        refine J.storeW 0 rfl rfl rfl rfl rfl rfl rfl Tb.sz30 (hcl _) (hcl _) (hc1 _) ?_
        refine J.nil ?_
        refine hK61 _ _ _ (fun w hs => hs.mask [false, false, true, true, true]) ?_
        refine D.done (by as_aux_lemma => kernel_rfl) ?_
        refine againK7 (g4, g5) _ trivial (okE_cons rfl (okE_cons rfl okE_nil)) (okE_cons rfl (okE_cons rfl okE_nil))
    · refine DS.ofJ rfl fun KhK62 hK62 => ?_
      refine J.alloc rfl rfl rfl rfl Tb.zz30 rfl fun g5 => ?_
      refine J.nil ?_
      refine hK62 _ _ _ (fun w hs => hs.mask [false, true, true, true]) ?_
      refine D.two 6 14 (by as_aux_lemma => kernel_rfl) ?_ ?_
      · refine DS.ofJ rfl fun KhK64 hK64 => ?_
        refine J.callv rfl rfl rfl rfl Tb.cl105 rfl ((node_spec a b).to (by rw [eab])) ?_
        refine J.nil ?_
        refine hK64 _ _ _ (fun w hs => hs.mask [false, true, true, true]) ?_
        refine D.two 13 14 (by as_aux_lemma => kernel_rfl) ?_ ?_
        · refine DS.ofJ rfl fun KhK66 hK66 => ?_
          refine J.callv rfl rfl rfl rfl Tb.cl105 rfl ((node_spec c d).to (by rw [ecd])) ?_
          refine J.nil ?_
          refine hK66 _ _ _ (fun w hs => hs.mask [false, true, true, true]) ?_
          refine D.ofJ 14 (by as_aux_lemma => kernel_rfl) rfl fun KhK67 hK67 => ?_
          refine J.alloc rfl rfl rfl rfl Tb.zz30 rfl fun g4 => ?_
          refine J.nil ?_
          refine hK67 _ _ _ (fun w hs => hs.mask [false, false, true, true, true]) ?_
          refine D.ofJ 16 (by as_aux_lemma => kernel_rfl) rfl fun KhK68 hK68 => ?_
          refine J.storeW 0 rfl rfl rfl rfl rfl rfl rfl Tb.sz30 (hcl _) (hcl _) (hc1 _) ?_
          refine J.nil ?_
          refine hK68 _ _ _ (fun w hs => hs.mask [false, false, true, true, true]) ?_
          refine D.ofJ 17 (by as_aux_lemma => kernel_rfl) rfl fun KhK69 hK69 => ?_
          refine J.storeW 1 rfl rfl rfl rfl rfl rfl rfl Tb.sz30 (hcl _) (hcl _) (hc1 _) ?_
          refine J.nil ?_
          refine hK69 _ _ _ (fun w hs => hs.mask [false, false, true, true, true]) ?_
          refine D.done (by as_aux_lemma => kernel_rfl) ?_
          refine JQ.front 1 rfl ?_
          refine againK7 (g4, g5) _ trivial (okE_cons rfl (okE_cons rfl okE_nil)) (okE_cons rfl (okE_cons rfl okE_nil))
        · refine DS.ofJ rfl fun KhK70 hK70 => ?_
          refine J.alloc rfl rfl rfl rfl Tb.zz30 rfl fun g4 => ?_
          refine J.nil ?_
          refine hK70 _ _ _ (fun w hs => hs.mask [false, false, true, true, true]) ?_
          refine D.ofJ 13 (by as_aux_lemma => kernel_rfl) rfl fun KhK72 hK72 => ?_
          refine J.callv rfl rfl rfl rfl Tb.cl105 rfl ((node_spec c d).to (by rw [ecd])) ?_
          refine J.nil ?_
          refine hK72 _ _ _ (fun w hs => hs.mask [false, false, true, true, true]) ?_
          refine D.ofJ 16 (by as_aux_lemma => kernel_rfl) rfl fun KhK73 hK73 => ?_
          refine J.storeW 0 rfl rfl rfl rfl rfl rfl rfl Tb.sz30 (hcl _) (hcl _) (hc1 _) ?_
          refine J.nil ?_
          refine hK73 _ _ _ (fun w hs => hs.mask [false, false, true, true, true]) ?_
          refine D.ofJ 17 (by as_aux_lemma => kernel_rfl) rfl fun KhK74 hK74 => ?_
          refine J.storeW 1 rfl rfl rfl rfl rfl rfl rfl Tb.sz30 (hcl _) (hcl _) (hc1 _) ?_
          refine J.nil ?_
          refine hK74 _ _ _ (fun w hs => hs.mask [false, false, true, true, true]) ?_
          refine D.done (by as_aux_lemma => kernel_rfl) ?_
          refine JQ.front 1 rfl ?_
          refine againK7 (g4, g5) _ trivial (okE_cons rfl (okE_cons rfl okE_nil)) (okE_cons rfl (okE_cons rfl okE_nil))
      · refine DS.ofJ rfl fun KhK75 hK75 => ?_
        refine J.alloc rfl rfl rfl rfl Tb.zz30 rfl fun g4 => ?_
        refine J.nil ?_
        refine hK75 _ _ _ (fun w hs => hs.mask [false, false, true, true, true]) ?_
        refine D.ofJ 6 (by as_aux_lemma => kernel_rfl) rfl fun KhK77 hK77 => ?_
        refine J.callv rfl rfl rfl rfl Tb.cl105 rfl ((node_spec a b).to (by rw [eab])) ?_
        refine J.nil ?_
        refine hK77 _ _ _ (fun w hs => hs.mask [false, false, true, true, true]) ?_
        refine D.ofJ 13 (by as_aux_lemma => kernel_rfl) rfl fun KhK79 hK79 => ?_
        refine J.callv rfl rfl rfl rfl Tb.cl105 rfl ((node_spec c d).to (by rw [ecd])) ?_
        refine J.nil ?_
        refine hK79 _ _ _ (fun w hs => hs.mask [false, false, true, true, true]) ?_
        refine D.ofJ 16 (by as_aux_lemma => kernel_rfl) rfl fun KhK80 hK80 => ?_
        refine J.storeW 0 rfl rfl rfl rfl rfl rfl rfl Tb.sz30 (hcl _) (hcl _) (hc1 _) ?_
        refine J.nil ?_
        refine hK80 _ _ _ (fun w hs => hs.mask [false, false, true, true, true]) ?_
        refine D.ofJ 17 (by as_aux_lemma => kernel_rfl) rfl fun KhK81 hK81 => ?_
        refine J.storeW 1 rfl rfl rfl rfl rfl rfl rfl Tb.sz30 (hcl _) (hcl _) (hc1 _) ?_
        refine J.nil ?_
        refine hK81 _ _ _ (fun w hs => hs.mask [false, false, true, true, true]) ?_
        refine D.done (by as_aux_lemma => kernel_rfl) ?_
        refine JQ.front 1 rfl ?_
        refine againK7 (g4, g5) _ trivial (okE_cons rfl (okE_cons rfl okE_nil)) (okE_cons rfl (okE_cons rfl okE_nil))
  · obtain ⟨g4, g5⟩ := sK7
    dsimp only at hK7 ⊢
    obtain htriv := hK7
    refine JQ.next hK6 ?_
    refine JC.seq fun K82 hK82 => ?_
    refine JC.region ?_
    refine J.yl (y_move rfl rfl) rfl rfl rfl ?_
    refine J.callv rfl rfl rfl rfl Tb.cl33 rfl (tnode_fnE T m 5 es clock _ hM 1 1 (by unfold in64; omega) (by unfold in64; omega) cd true (by rw [ht11]; rfl) (by rw [ht11]; rfl) (fun w h => tt_of 2 3 rfl rfl h.2)) ?_
    refine J.yl (y_move rfl rfl) rfl rfl rfl ?_
    refine J.yl (y_extract rfl rfl rfl) rfl rfl rfl ?_
    refine J.yl (y_extract rfl rfl rfl) rfl rfl rfl ?_
    refine J.alloc rfl rfl rfl rfl Tb.zz30 rfl fun g6 => ?_
    refine J.storeW 0 rfl rfl rfl rfl rfl rfl rfl Tb.sz30 (hcl _) (hcl _) (hc1 _) ?_
    refine J.yl (y_assign rfl rfl) rfl rfl rfl ?_
    refine J.nil ?_
    refine JQ.next hK82 ?_
    refine JC.seq fun K83 hK83 => ?_
    refine JC.region ?_
    refine J.yl (y_move rfl rfl) rfl rfl rfl ?_
    refine J.callv rfl rfl rfl rfl Tb.cl33 rfl (tnode_fnE T m 5 es clock _ hM 1 2 (by unfold in64; omega) (by unfold in64; omega) (H.zero) false (by rw [ht12]; rfl) (by rw [ht12]; rfl) (fun w h => tt_of 3 4 rfl rfl h.2)) ?_
    refine J.yl (y_move rfl rfl) rfl rfl rfl ?_
    refine J.yl (y_extract rfl rfl rfl) rfl rfl rfl ?_
    refine J.yl (y_extract rfl rfl rfl) rfl rfl rfl ?_
    refine J.alloc rfl rfl rfl rfl Tb.zz30 rfl fun g8 => ?_
    refine J.storeW 0 rfl rfl rfl rfl rfl rfl rfl Tb.sz30 (hcl _) (hcl _) (hc1 _) ?_
    refine J.yl (y_assign rfl rfl) rfl rfl rfl ?_
    refine J.nil ?_
    refine JQ.next hK83 ?_
    refine JC.seq fun K84 hK84 => ?_
    refine JC.region ?_
    refine J.yl (y_move rfl rfl) rfl rfl rfl ?_
    refine J.callv rfl rfl rfl rfl Tb.cl33 rfl (tnode_fnE T m 5 es clock _ hM 2 0 (by unfold in64; omega) (by unfold in64; omega) abcd true (by rw [ht20]; rfl) (by rw [ht20]; rfl) (fun w h => tt_of 4 5 rfl rfl h.2)) ?_
    refine J.yl (y_move rfl rfl) rfl rfl rfl ?_
    refine J.yl (y_extract rfl rfl rfl) rfl rfl rfl ?_
    refine J.yl (y_extract rfl rfl rfl) rfl rfl rfl ?_
    refine J.alloc rfl rfl rfl rfl Tb.zz30 rfl fun g10 => ?_
    refine J.storeW 0 rfl rfl rfl rfl rfl rfl rfl Tb.sz30 (hcl _) (hcl _) (hc1 _) ?_
    refine J.yl (y_assign rfl rfl) rfl rfl rfl ?_
    refine J.nil ?_
    refine JQ.next hK84 ?_
    refine JC.seq fun K85 hK85 => ?_
    refine JC.region ?_
    refine J.yl (y_move rfl rfl) rfl rfl rfl ?_
    refine J.callv rfl rfl rfl rfl Tb.cl35 rfl (tRoot_fnE T m 5 es clock _ hM rfl (by omega) 3 abc 0 htr rfl (fun w h => tt_of 5 6 rfl rfl h.2)) ?_
    refine J.yl (y_move rfl rfl) rfl rfl rfl ?_
    refine J.yl (y_extract rfl rfl rfl) rfl rfl rfl ?_
    refine J.yl (y_extract rfl rfl rfl) rfl rfl rfl ?_
    refine J.alloc rfl rfl rfl rfl Tb.zz30 rfl fun g12 => ?_
    refine J.storeW 0 rfl rfl rfl rfl rfl rfl rfl Tb.sz30 (hcl _) (hcl _) (hc1 _) ?_
    refine J.yl (y_assign rfl rfl) rfl rfl rfl ?_
    refine J.nil ?_
    refine JQ.next hK85 ?_
    refine JC.seq fun K86 hK86 => ?_
    refine JC.region ?_
    refine J.yl (y_move rfl rfl) rfl rfl rfl ?_
    refine J.callR (Cin := []) rfl rfl rfl rfl Tb.cl37 rfl rfl (tPath_fnE T m 5 es clock _ hM rfl (by omega) 2 5 [d, ab, e] 0 hpa rfl (fun w h => tt_of 6 7 rfl rfl h.2)) ?_
    rintro ⟨A14, k14⟩ hk14
    refine J.yl (y_move rfl rfl) rfl rfl rfl ?_
    refine J.yl (y_extract rfl rfl rfl) rfl rfl rfl ?_
    refine J.yl (y_extract rfl rfl rfl) rfl rfl rfl ?_
    refine J.yl (y_assign rfl rfl) rfl rfl rfl ?_
    refine J.yl (y_assign rfl rfl) rfl rfl rfl ?_
    refine J.nil ?_
    refine JQ.next hK86 ?_
    refine JC.seq fun K87 hK87 => ?_
    refine JC.region ?_
    refine J.yl (y_move rfl rfl) rfl rfl rfl ?_
    refine J.callR (Cin := []) rfl rfl rfl rfl Tb.cl39 rfl rfl (tProof_fnE T m 5 es clock _ hM rfl (by omega) 3 5 [c, d, ab, e] 0 hpf rfl (fun w h => tt_of 7 8 rfl rfl h.2)) ?_
    rintro ⟨A16, k16⟩ hk16
    refine J.yl (y_move rfl rfl) rfl rfl rfl ?_
    refine J.yl (y_extract rfl rfl rfl) rfl rfl rfl ?_
    refine J.yl (y_extract rfl rfl rfl) rfl rfl rfl ?_
    refine J.yl (y_assign rfl rfl) rfl rfl rfl ?_
    refine J.yl (y_assign rfl rfl) rfl rfl rfl ?_
    refine J.nil ?_
    refine JQ.next hK87 ?_
    refine JC.seq fun K88 hK88 => ?_
    refine JC.region ?_
    refine J.yl (y_move rfl rfl) rfl rfl rfl ?_
    refine J.callR (Cin := []) rfl rfl rfl rfl Tb.cl37 rfl rfl (tPath_fnE T m 5 es clock _ hM rfl (by omega) 2 6 [] 82 rfl rfl (fun w h => tt_of 8 9 rfl rfl h.2)) ?_
    rintro ⟨A18, k18⟩ hk18
    refine J.yl (y_move rfl rfl) rfl rfl rfl ?_
    refine J.yl (y_extract rfl rfl rfl) rfl rfl rfl ?_
    refine J.yl (y_extract rfl rfl rfl) rfl rfl rfl ?_
    refine J.yl (y_assign rfl rfl) rfl rfl rfl ?_
    refine J.yl (y_assign rfl rfl) rfl rfl rfl ?_
    refine J.nil ?_
    refine JQ.next hK88 ?_
    refine JC.seq fun K89 hK89 => ?_
    refine JC.region ?_
    refine J.yl (y_move rfl rfl) rfl rfl rfl ?_
    refine J.drop ?_
    refine J.callR (Cin := []) rfl rfl rfl rfl Tb.cl37 rfl rfl (tPath_fnE T m 5 es clock _ hM rfl (by omega) 3 3 [] 82 rfl rfl (fun w h => tt_of 8 9 rfl rfl h.2)) ?_
    rintro ⟨A20, k20⟩ hk20
    refine J.yl (y_move rfl rfl) rfl rfl rfl ?_
    refine J.yl (y_extract rfl rfl rfl) rfl rfl rfl ?_
    refine J.yl (y_extract rfl rfl rfl) rfl rfl rfl ?_
    refine J.yl (y_assign rfl rfl) rfl rfl rfl ?_
    refine J.yl (y_assign rfl rfl) rfl rfl rfl ?_
    refine J.nil ?_
    refine JQ.next hK89 ?_
    refine JC.seq fun K90 hK90 => ?_
    refine JC.drawM [false, true, true, true, true, true, true, true, true, true, true, true] (by as_aux_lemma => kernel_rfl) ?_
    refine D.take 0 (y_lbW 5 rfl Tb.ag30 Tb.sz30 (hcl _) rfl rfl) rfl rfl rfl rfl (by as_aux_lemma => kernel_rfl) (by as_aux_lemma => kernel_rfl) (by as_aux_lemma => kernel_rfl) (PQ.next PQ.body) ?_
    refine D.take 1 (y_lbW 6 rfl Tb.ag30 Tb.sz30 (hcl _) rfl rfl) rfl rfl rfl rfl (by as_aux_lemma => kernel_rfl) (by as_aux_lemma => kernel_rfl) (by as_aux_lemma => kernel_rfl) (PQ.next PQ.body) ?_
    refine D.take 2 (Yl.to (v' := .bool true) (y_heq rfl Tryd.underlying30 Tryd.underlying5 Tb.ag5 Tb.sz5 Tb.eg30 rfl rfl) (by rw [decide_eq_true rfl]; first | done | rfl)) rfl rfl rfl rfl (by as_aux_lemma => kernel_rfl) (by as_aux_lemma => kernel_rfl) (by as_aux_lemma => kernel_rfl) (PQ.next PQ.body) ?_
    refine D.take 3 (y_move rfl rfl) rfl rfl rfl rfl (by as_aux_lemma => kernel_rfl) (by as_aux_lemma => kernel_rfl) (by as_aux_lemma => kernel_rfl) (PQ.next PQ.body) ?_
    refine D.takeG 4 (y_move rfl rfl) rfl rfl rfl rfl rfl rfl rfl (by as_aux_lemma => kernel_rfl) (by as_aux_lemma => kernel_rfl) (by as_aux_lemma => kernel_rfl) (PQ.next PQ.body) ?_
    refine D.take 5 (y_pick rfl rfl (fun _ => rfl) (fun h => by cases h)) rfl rfl rfl rfl (by as_aux_lemma => kernel_rfl) (by as_aux_lemma => kernel_rfl) (by as_aux_lemma => kernel_rfl) (PQ.next PQ.body) ?_
    refine D.take 6 (y_move rfl rfl) rfl rfl rfl rfl (by as_aux_lemma => kernel_rfl) (by as_aux_lemma => kernel_rfl) (by as_aux_lemma => kernel_rfl) (PQ.next PQ.body) ?_
    refine D.takeG 7 (y_lbW 4 rfl Tb.ag30 Tb.sz30 (hcl _) rfl rfl) rfl rfl rfl rfl rfl rfl rfl (by as_aux_lemma => kernel_rfl) (by as_aux_lemma => kernel_rfl) (by as_aux_lemma => kernel_rfl) (PQ.next PQ.body) ?_
    refine D.takeG 8 (y_buildA (cs := hc H.zero) rfl Tryd.underlying30 Tb.zz30 Tb.sz5 rfl rfl) rfl rfl rfl rfl rfl rfl rfl (by as_aux_lemma => kernel_rfl) (by as_aux_lemma => kernel_rfl) (by as_aux_lemma => kernel_rfl) (PQ.next PQ.body) ?_
    refine D.takeG 9 (Yl.to (v' := .bool true) (y_heq rfl Tryd.underlying30 Tryd.underlying5 Tb.ag5 Tb.sz5 Tb.eg30 rfl rfl) (by rw [decide_eq_true rfl]; first | done | rfl)) rfl rfl rfl rfl rfl rfl rfl (by as_aux_lemma => kernel_rfl) (by as_aux_lemma => kernel_rfl) (by as_aux_lemma => kernel_rfl) (PQ.next PQ.body) ?_
    refine D.take 10 (y_pick rfl rfl (fun _ => rfl) (fun h => by cases h)) rfl rfl rfl rfl (by as_aux_lemma => kernel_rfl) (by as_aux_lemma => kernel_rfl) (by as_aux_lemma => kernel_rfl) (PQ.next PQ.body) ?_
    refine D.take 11 (y_move rfl rfl) rfl rfl rfl rfl (by as_aux_lemma => kernel_rfl) (by as_aux_lemma => kernel_rfl) (by as_aux_lemma => kernel_rfl) (PQ.next PQ.body) ?_
    refine D.takeG 12 (y_move rfl rfl) rfl rfl rfl rfl rfl rfl rfl (by as_aux_lemma => kernel_rfl) (by as_aux_lemma => kernel_rfl) (by as_aux_lemma => kernel_rfl) (PQ.next PQ.body) ?_
    refine D.takeG 13 ((y_not rfl rfl).to rfl) rfl rfl rfl rfl rfl rfl rfl (by as_aux_lemma => kernel_rfl) (by as_aux_lemma => kernel_rfl) (by as_aux_lemma => kernel_rfl) (PQ.next PQ.body) ?_
    refine D.take 14 (y_pick rfl rfl (fun _ => rfl) (fun h => by cases h)) rfl rfl rfl rfl (by as_aux_lemma => kernel_rfl) (by as_aux_lemma => kernel_rfl) (by as_aux_lemma => kernel_rfl) (PQ.next PQ.body) ?_
    refine D.take 15 (y_move rfl rfl) rfl rfl rfl rfl (by as_aux_lemma => kernel_rfl) (by as_aux_lemma => kernel_rfl) (by as_aux_lemma => kernel_rfl) (PQ.next PQ.body) ?_
    refine D.takeG 16 (y_lbW 3 rfl Tb.ag30 Tb.sz30 (hcl _) rfl rfl) rfl rfl rfl rfl rfl rfl rfl (by as_aux_lemma => kernel_rfl) (by as_aux_lemma => kernel_rfl) (by as_aux_lemma => kernel_rfl) (PQ.next PQ.body) ?_
    refine D.takeG 17 (y_lbW 7 rfl Tb.ag30 Tb.sz30 (hcl _) rfl rfl) rfl rfl rfl rfl rfl rfl rfl (by as_aux_lemma => kernel_rfl) (by as_aux_lemma => kernel_rfl) (by as_aux_lemma => kernel_rfl) (PQ.next PQ.body) ?_
    refine D.takeG 18 (y_lbW 6 rfl Tb.ag30 Tb.sz30 (hcl _) rfl rfl) rfl rfl rfl rfl rfl rfl rfl (by as_aux_lemma => kernel_rfl) (by as_aux_lemma => kernel_rfl) (by as_aux_lemma => kernel_rfl) (PQ.next PQ.body) ?_
    refine D.ofJ 19 (by as_aux_lemma => kernel_rfl) rfl fun KhK92 hK92 => ?_
    refine J.gon rfl rfl rfl rfl ?_
    refine J.callv rfl rfl rfl rfl Tb.cl105 rfl ((node_spec ab cd).to (by rw [eabcd])) ?_
    refine J.nil ?_
    refine hK92 _ _ _ (fun w hs => hs.mask [false, true, true, true, true, true, true, true, true, true, true, true]) ?_
    refine D.takeG 20 (Yl.to (v' := .bool true) (y_heq rfl Tryd.underlying30 Tryd.underlying5 Tb.ag5 Tb.sz5 Tb.eg30 rfl rfl) (by rw [decide_eq_true rfl]; first | done | rfl)) rfl rfl rfl rfl rfl rfl rfl (by as_aux_lemma => kernel_rfl) (by as_aux_lemma => kernel_rfl) (by as_aux_lemma => kernel_rfl) (PQ.next PQ.body) ?_
    refine D.take 21 (y_pick rfl rfl (fun _ => rfl) (fun h => by cases h)) rfl rfl rfl rfl (by as_aux_lemma => kernel_rfl) (by as_aux_lemma => kernel_rfl) (by as_aux_lemma => kernel_rfl) (PQ.next PQ.body) ?_
    refine D.take 22 (y_move rfl rfl) rfl rfl rfl rfl (by as_aux_lemma => kernel_rfl) (by as_aux_lemma => kernel_rfl) (by as_aux_lemma => kernel_rfl) (PQ.next PQ.body) ?_
    refine D.takeG 23 (y_move rfl rfl) rfl rfl rfl rfl rfl rfl rfl (by as_aux_lemma => kernel_rfl) (by as_aux_lemma => kernel_rfl) (by as_aux_lemma => kernel_rfl) (PQ.next PQ.body) ?_
    refine D.take 24 (y_pick rfl rfl (fun _ => rfl) (fun h => by cases h)) rfl rfl rfl rfl (by as_aux_lemma => kernel_rfl) (by as_aux_lemma => kernel_rfl) (by as_aux_lemma => kernel_rfl) (PQ.next PQ.body) ?_
    refine D.take 25 (y_move rfl rfl) rfl rfl rfl rfl (by as_aux_lemma => kernel_rfl) (by as_aux_lemma => kernel_rfl) (by as_aux_lemma => kernel_rfl) (PQ.next PQ.body) ?_
    refine D.takeG 26 (y_lbW 2 rfl Tb.ag30 Tb.sz30 (hcl _) rfl rfl) rfl rfl rfl rfl rfl rfl rfl (by as_aux_lemma => kernel_rfl) (by as_aux_lemma => kernel_rfl) (by as_aux_lemma => kernel_rfl) (PQ.next PQ.body) ?_
    refine D.takeG 27 (y_lbW 7 rfl Tb.ag30 Tb.sz30 (hcl _) rfl rfl) rfl rfl rfl rfl rfl rfl rfl (by as_aux_lemma => kernel_rfl) (by as_aux_lemma => kernel_rfl) (by as_aux_lemma => kernel_rfl) (PQ.next PQ.body) ?_
    refine D.takeG 28 (y_move rfl rfl) rfl rfl rfl rfl rfl rfl rfl (by as_aux_lemma => kernel_rfl) (by as_aux_lemma => kernel_rfl) (by as_aux_lemma => kernel_rfl) (PQ.next PQ.body) ?_
    refine D.takeG 29 (y_hidx (n := 5) (l := [a, b, c, d, e]) 2 rfl Tryd.underlying22 Tb.sz30 rfl rfl rfl rfl (by omega) (fun w hs => strow hs 10 rfl)) rfl rfl rfl rfl rfl rfl rfl (by as_aux_lemma => kernel_rfl) (by as_aux_lemma => kernel_rfl) (by as_aux_lemma => kernel_rfl) (PQ.next PQ.body) ?_
    refine D.takeG 30 (y_hld (l := [a, b, c, d, e]) c rfl Tb.ag30 Tb.sz30 rfl rfl (fun w hs => strow hs 10 rfl)) rfl rfl rfl rfl rfl rfl rfl (by as_aux_lemma => kernel_rfl) (by as_aux_lemma => kernel_rfl) (by as_aux_lemma => kernel_rfl) (PQ.next PQ.body) ?_
    refine D.ofJ 31 (by as_aux_lemma => kernel_rfl) rfl fun KhK94 hK94 => ?_
    refine J.gon rfl rfl rfl rfl ?_
    refine J.callv rfl rfl rfl rfl Tb.cl105 rfl ((node_spec ab c).to (by rw [eabc])) ?_
    refine J.nil ?_
    refine hK94 _ _ _ (fun w hs => hs.mask [false, true, true, true, true, true, true, true, true, true, true, true]) ?_
    refine D.takeG 32 (Yl.to (v' := .bool true) (y_heq rfl Tryd.underlying30 Tryd.underlying5 Tb.ag5 Tb.sz5 Tb.eg30 rfl rfl) (by rw [decide_eq_true rfl]; first | done | rfl)) rfl rfl rfl rfl rfl rfl rfl (by as_aux_lemma => kernel_rfl) (by as_aux_lemma => kernel_rfl) (by as_aux_lemma => kernel_rfl) (PQ.next PQ.body) ?_
    refine D.take 33 (y_pick rfl rfl (fun _ => rfl) (fun h => by cases h)) rfl rfl rfl rfl (by as_aux_lemma => kernel_rfl) (by as_aux_lemma => kernel_rfl) (by as_aux_lemma => kernel_rfl) (PQ.next PQ.body) ?_
    refine D.take 34 (y_move rfl rfl) rfl rfl rfl rfl (by as_aux_lemma => kernel_rfl) (by as_aux_lemma => kernel_rfl) (by as_aux_lemma => kernel_rfl) (PQ.next PQ.body) ?_
    refine D.takeG 35 (y_move rfl rfl) rfl rfl rfl rfl rfl rfl rfl (by as_aux_lemma => kernel_rfl) (by as_aux_lemma => kernel_rfl) (by as_aux_lemma => kernel_rfl) (PQ.next PQ.body) ?_
    refine D.takeG 36 ((y_eq rfl rfl rfl).to rfl) rfl rfl rfl rfl rfl rfl rfl (by as_aux_lemma => kernel_rfl) (by as_aux_lemma => kernel_rfl) (by as_aux_lemma => kernel_rfl) (PQ.next PQ.body) ?_
    refine D.take 37 (y_pick rfl rfl (fun _ => rfl) (fun h => by cases h)) rfl rfl rfl rfl (by as_aux_lemma => kernel_rfl) (by as_aux_lemma => kernel_rfl) (by as_aux_lemma => kernel_rfl) (PQ.next PQ.body) ?_
    refine D.take 38 (y_move rfl rfl) rfl rfl rfl rfl (by as_aux_lemma => kernel_rfl) (by as_aux_lemma => kernel_rfl) (by as_aux_lemma => kernel_rfl) (PQ.next PQ.body) ?_
    refine D.takeG 39 (y_move rfl rfl) rfl rfl rfl rfl rfl rfl rfl (by as_aux_lemma => kernel_rfl) (by as_aux_lemma => kernel_rfl) (by as_aux_lemma => kernel_rfl) (PQ.next PQ.body) ?_
    refine D.takeG 40 (y_move rfl rfl) rfl rfl rfl rfl rfl rfl rfl (by as_aux_lemma => kernel_rfl) (by as_aux_lemma => kernel_rfl) (by as_aux_lemma => kernel_rfl) (PQ.next PQ.body) ?_
    refine D.takeG 43 (y_lbW 7 rfl Tb.ag30 Tb.sz30 (hcl _) rfl rfl) rfl rfl rfl rfl rfl rfl rfl (by as_aux_lemma => kernel_rfl) (by as_aux_lemma => kernel_rfl) (by as_aux_lemma => kernel_rfl) (PQ.next PQ.body) ?_
    refine D.takeG 44 (y_move rfl rfl) rfl rfl rfl rfl rfl rfl rfl (by as_aux_lemma => kernel_rfl) (by as_aux_lemma => kernel_rfl) (by as_aux_lemma => kernel_rfl) (PQ.next PQ.body) ?_
    refine D.takeG 41 (y_hidx (n := 5) (l := [a, b, c, d, e]) 3 rfl Tryd.underlying22 Tb.sz30 rfl rfl rfl rfl (by omega) (fun w hs => strow hs 10 rfl)) rfl rfl rfl rfl rfl rfl rfl (by as_aux_lemma => kernel_rfl) (by as_aux_lemma => kernel_rfl) (by as_aux_lemma => kernel_rfl) (PQ.next PQ.body) ?_
    refine D.takeG 42 (y_hld (l := [a, b, c, d, e]) d rfl Tb.ag30 Tb.sz30 rfl rfl (fun w hs => strow hs 10 rfl)) rfl rfl rfl rfl rfl rfl rfl (by as_aux_lemma => kernel_rfl) (by as_aux_lemma => kernel_rfl) (by as_aux_lemma => kernel_rfl) (PQ.next PQ.body) ?_
    refine D.takeG 45 (y_hidx (n := 5) (l := [a, b, c, d, e]) 4 rfl Tryd.underlying22 Tb.sz30 rfl rfl rfl rfl (by omega) (fun w hs => strow hs 10 rfl)) rfl rfl rfl rfl rfl rfl rfl (by as_aux_lemma => kernel_rfl) (by as_aux_lemma => kernel_rfl) (by as_aux_lemma => kernel_rfl) (PQ.next PQ.body) ?_
    refine D.takeG 46 (y_hld (l := [a, b, c, d, e]) e rfl Tb.ag30 Tb.sz30 rfl rfl (fun w hs => strow hs 10 rfl)) rfl rfl rfl rfl rfl rfl rfl (by as_aux_lemma => kernel_rfl) (by as_aux_lemma => kernel_rfl) (by as_aux_lemma => kernel_rfl) (PQ.next PQ.body) ?_
    refine D.ofJ 47 (by as_aux_lemma => kernel_rfl) rfl fun KhK96 hK96 => ?_
    refine J.gon rfl rfl rfl rfl ?_
    refine J.bsN (cs := hcs ([d, ab, e])) ([d, ab, e]) hv hc hv_cells hcl rfl rfl rfl rfl rfl rfl Tryd.underlying22 Tb.zz30 Tb.sz30 rfl rfl fun g131 => ?_
    refine J.nil ?_
    refine hK96 _ _ _ (fun w hs => hs.mask [false, false, true, true, true, true, true, true, true, true, true, true, true]) ?_
    refine D.ofJ 48 (by as_aux_lemma => kernel_rfl) rfl fun KhK98 hK98 => ?_
    refine J.gon rfl rfl rfl rfl ?_
    refine J.callv rfl rfl rfl rfl Tb.cl26 rfl ((same_fn [d, ab, e] [d, ab, e] _ _ 3 3 _ _ rfl rfl (by omega) (fun w h => ckrow 3 rfl h) (fun w h => ckrow 0 rfl h)).to (by rw [decide_eq_true rfl])) ?_
    refine J.nil ?_
    refine hK98 _ _ _ (fun w hs => hs.mask [false, false, true, true, true, true, true, true, true, true, true, true, true]) ?_
    refine D.take 49 (y_pick rfl rfl (fun _ => rfl) (fun h => by cases h)) rfl rfl rfl rfl (by as_aux_lemma => kernel_rfl) (by as_aux_lemma => kernel_rfl) (by as_aux_lemma => kernel_rfl) (PQ.next PQ.body) ?_
    refine D.take 50 (y_move rfl rfl) rfl rfl rfl rfl (by as_aux_lemma => kernel_rfl) (by as_aux_lemma => kernel_rfl) (by as_aux_lemma => kernel_rfl) (PQ.next PQ.body) ?_
    refine D.takeG 51 (y_move rfl rfl) rfl rfl rfl rfl rfl rfl rfl (by as_aux_lemma => kernel_rfl) (by as_aux_lemma => kernel_rfl) (by as_aux_lemma => kernel_rfl) (PQ.next PQ.body) ?_
    refine D.takeG 52 ((y_eq rfl rfl rfl).to rfl) rfl rfl rfl rfl rfl rfl rfl (by as_aux_lemma => kernel_rfl) (by as_aux_lemma => kernel_rfl) (by as_aux_lemma => kernel_rfl) (PQ.next PQ.body) ?_
    refine D.take 53 (y_pick rfl rfl (fun _ => rfl) (fun h => by cases h)) rfl rfl rfl rfl (by as_aux_lemma => kernel_rfl) (by as_aux_lemma => kernel_rfl) (by as_aux_lemma => kernel_rfl) (PQ.next PQ.body) ?_
    refine D.take 54 (y_move rfl rfl) rfl rfl rfl rfl (by as_aux_lemma => kernel_rfl) (by as_aux_lemma => kernel_rfl) (by as_aux_lemma => kernel_rfl) (PQ.next PQ.body) ?_
    refine D.takeG 55 (y_move rfl rfl) rfl rfl rfl rfl rfl rfl rfl (by as_aux_lemma => kernel_rfl) (by as_aux_lemma => kernel_rfl) (by as_aux_lemma => kernel_rfl) (PQ.next PQ.body) ?_
    refine D.takeG 56 (y_move rfl rfl) rfl rfl rfl rfl rfl rfl rfl (by as_aux_lemma => kernel_rfl) (by as_aux_lemma => kernel_rfl) (by as_aux_lemma => kernel_rfl) (PQ.next PQ.body) ?_
    refine D.takeG 59 (y_move rfl rfl) rfl rfl rfl rfl rfl rfl rfl (by as_aux_lemma => kernel_rfl) (by as_aux_lemma => kernel_rfl) (by as_aux_lemma => kernel_rfl) (PQ.next PQ.body) ?_
    refine D.takeG 62 (y_lbW 7 rfl Tb.ag30 Tb.sz30 (hcl _) rfl rfl) rfl rfl rfl rfl rfl rfl rfl (by as_aux_lemma => kernel_rfl) (by as_aux_lemma => kernel_rfl) (by as_aux_lemma => kernel_rfl) (PQ.next PQ.body) ?_
    refine D.takeG 63 (y_move rfl rfl) rfl rfl rfl rfl rfl rfl rfl (by as_aux_lemma => kernel_rfl) (by as_aux_lemma => kernel_rfl) (by as_aux_lemma => kernel_rfl) (PQ.next PQ.body) ?_
    refine D.takeG 57 (y_hidx (n := 5) (l := [a, b, c, d, e]) 2 rfl Tryd.underlying22 Tb.sz30 rfl rfl rfl rfl (by omega) (fun w hs => strow hs 10 rfl)) rfl rfl rfl rfl rfl rfl rfl (by as_aux_lemma => kernel_rfl) (by as_aux_lemma => kernel_rfl) (by as_aux_lemma => kernel_rfl) (PQ.next PQ.body) ?_
    refine D.takeG 58 (y_hld (l := [a, b, c, d, e]) c rfl Tb.ag30 Tb.sz30 rfl rfl (fun w hs => strow hs 10 rfl)) rfl rfl rfl rfl rfl rfl rfl (by as_aux_lemma => kernel_rfl) (by as_aux_lemma => kernel_rfl) (by as_aux_lemma => kernel_rfl) (PQ.next PQ.body) ?_
    refine D.takeG 60 (y_hidx (n := 5) (l := [a, b, c, d, e]) 3 rfl Tryd.underlying22 Tb.sz30 rfl rfl rfl rfl (by omega) (fun w hs => strow hs 10 rfl)) rfl rfl rfl rfl rfl rfl rfl (by as_aux_lemma => kernel_rfl) (by as_aux_lemma => kernel_rfl) (by as_aux_lemma => kernel_rfl) (PQ.next PQ.body) ?_
    refine D.takeG 61 (y_hld (l := [a, b, c, d, e]) d rfl Tb.ag30 Tb.sz30 rfl rfl (fun w hs => strow hs 10 rfl)) rfl rfl rfl rfl rfl rfl rfl (by as_aux_lemma => kernel_rfl) (by as_aux_lemma => kernel_rfl) (by as_aux_lemma => kernel_rfl) (PQ.next PQ.body) ?_
    refine D.takeG 64 (y_hidx (n := 5) (l := [a, b, c, d, e]) 4 rfl Tryd.underlying22 Tb.sz30 rfl rfl rfl rfl (by omega) (fun w hs => strow hs 10 rfl)) rfl rfl rfl rfl rfl rfl rfl (by as_aux_lemma => kernel_rfl) (by as_aux_lemma => kernel_rfl) (by as_aux_lemma => kernel_rfl) (PQ.next PQ.body) ?_
    refine D.takeG 65 (y_hld (l := [a, b, c, d, e]) e rfl Tb.ag30 Tb.sz30 rfl rfl (fun w hs => strow hs 10 rfl)) rfl rfl rfl rfl rfl rfl rfl (by as_aux_lemma => kernel_rfl) (by as_aux_lemma => kernel_rfl) (by as_aux_lemma => kernel_rfl) (PQ.next PQ.body) ?_
    refine D.ofJ 66 (by as_aux_lemma => kernel_rfl) rfl fun KhK100 hK100 => ?_
    refine J.gon rfl rfl rfl rfl ?_
    refine J.bsN (cs := hcs ([c, d, ab, e])) ([c, d, ab, e]) hv hc hv_cells hcl rfl rfl rfl rfl rfl rfl Tryd.underlying22 Tb.zz30 Tb.sz30 rfl rfl fun g150 => ?_
    refine J.nil ?_
    refine hK100 _ _ _ (fun w hs => hs.mask [false, false, false, true, true, true, true, true, true, true, true, true, true, true]) ?_
    refine D.ofJ 67 (by as_aux_lemma => kernel_rfl) rfl fun KhK102 hK102 => ?_
    refine J.gon rfl rfl rfl rfl ?_
    refine J.callv rfl rfl rfl rfl Tb.cl26 rfl ((same_fn [c, d, ab, e] [c, d, ab, e] _ _ 4 4 _ _ rfl rfl (by omega) (fun w h => ckrow 3 rfl h) (fun w h => ckrow 0 rfl h)).to (by rw [decide_eq_true rfl])) ?_
    refine J.nil ?_
    refine hK102 _ _ _ (fun w hs => hs.mask [false, false, false, true, true, true, true, true, true, true, true, true, true, true]) ?_
    refine D.take 68 (y_pick rfl rfl (fun _ => rfl) (fun h => by cases h)) rfl rfl rfl rfl (by as_aux_lemma => kernel_rfl) (by as_aux_lemma => kernel_rfl) (by as_aux_lemma => kernel_rfl) (PQ.next PQ.body) ?_
    refine D.take 69 (y_move rfl rfl) rfl rfl rfl rfl (by as_aux_lemma => kernel_rfl) (by as_aux_lemma => kernel_rfl) (by as_aux_lemma => kernel_rfl) (PQ.next PQ.body) ?_
    refine D.takeG 70 (y_move rfl rfl) rfl rfl rfl rfl rfl rfl rfl (by as_aux_lemma => kernel_rfl) (by as_aux_lemma => kernel_rfl) (by as_aux_lemma => kernel_rfl) (PQ.next PQ.body) ?_
    refine D.takeG 71 ((y_eq rfl rfl rfl).to rfl) rfl rfl rfl rfl rfl rfl rfl (by as_aux_lemma => kernel_rfl) (by as_aux_lemma => kernel_rfl) (by as_aux_lemma => kernel_rfl) (PQ.next PQ.body) ?_
    refine D.take 72 (y_pick rfl rfl (fun _ => rfl) (fun h => by cases h)) rfl rfl rfl rfl (by as_aux_lemma => kernel_rfl) (by as_aux_lemma => kernel_rfl) (by as_aux_lemma => kernel_rfl) (PQ.next PQ.body) ?_
    refine D.take 73 (y_move rfl rfl) rfl rfl rfl rfl (by as_aux_lemma => kernel_rfl) (by as_aux_lemma => kernel_rfl) (by as_aux_lemma => kernel_rfl) (PQ.next PQ.body) ?_
    refine D.takeG 74 (y_move rfl rfl) rfl rfl rfl rfl rfl rfl rfl (by as_aux_lemma => kernel_rfl) (by as_aux_lemma => kernel_rfl) (by as_aux_lemma => kernel_rfl) (PQ.next PQ.body) ?_
    refine D.takeG 75 ((y_eq rfl rfl rfl).to rfl) rfl rfl rfl rfl rfl rfl rfl (by as_aux_lemma => kernel_rfl) (by as_aux_lemma => kernel_rfl) (by as_aux_lemma => kernel_rfl) (PQ.next PQ.body) ?_
    refine D.take 76 (y_pick rfl rfl (fun _ => rfl) (fun h => by cases h)) rfl rfl rfl rfl (by as_aux_lemma => kernel_rfl) (by as_aux_lemma => kernel_rfl) (by as_aux_lemma => kernel_rfl) (PQ.next PQ.body) ?_
    refine D.take 77 (y_move rfl rfl) rfl rfl rfl rfl (by as_aux_lemma => kernel_rfl) (by as_aux_lemma => kernel_rfl) (by as_aux_lemma => kernel_rfl) (PQ.next PQ.body) ?_
    refine D.takeG 78 (y_move rfl rfl) rfl rfl rfl rfl rfl rfl rfl (by as_aux_lemma => kernel_rfl) (by as_aux_lemma => kernel_rfl) (by as_aux_lemma => kernel_rfl) (PQ.next PQ.body) ?_
    refine D.takeG 79 ((y_eq rfl rfl rfl).to rfl) rfl rfl rfl rfl rfl rfl rfl (by as_aux_lemma => kernel_rfl) (by as_aux_lemma => kernel_rfl) (by as_aux_lemma => kernel_rfl) (PQ.next PQ.body) ?_
    refine D.take 80 (y_pick rfl rfl (fun _ => rfl) (fun h => by cases h)) rfl rfl rfl rfl (by as_aux_lemma => kernel_rfl) (by as_aux_lemma => kernel_rfl) (by as_aux_lemma => kernel_rfl) (PQ.next PQ.body) ?_
    refine D.take 81 (y_move rfl rfl) rfl rfl rfl rfl (by as_aux_lemma => kernel_rfl) (by as_aux_lemma => kernel_rfl) (by as_aux_lemma => kernel_rfl) (PQ.next PQ.body) ?_
    refine D.takeG 82 (y_lbW 7 rfl Tb.ag30 Tb.sz30 (hcl _) rfl rfl) rfl rfl rfl rfl rfl rfl rfl (by as_aux_lemma => kernel_rfl) (by as_aux_lemma => kernel_rfl) (by as_aux_lemma => kernel_rfl) (PQ.next PQ.body) ?_
    refine D.takeG 83 (y_buildA (cs := hc H.zero) rfl Tryd.underlying30 Tb.zz30 Tb.sz5 rfl rfl) rfl rfl rfl rfl rfl rfl rfl (by as_aux_lemma => kernel_rfl) (by as_aux_lemma => kernel_rfl) (by as_aux_lemma => kernel_rfl) (PQ.next PQ.body) ?_
    refine D.takeG 84 (y_hne rfl Tryd.underlying30 Tryd.underlying5 Tb.ag5 Tb.sz5 Tb.eg30 rfl rfl) rfl rfl rfl rfl rfl rfl rfl (by as_aux_lemma => kernel_rfl) (by as_aux_lemma => kernel_rfl) (by as_aux_lemma => kernel_rfl) (PQ.next PQ.body) ?_
    refine D.take 85 (y_pick rfl rfl (fun _ => rfl) (fun h => by cases h)) rfl rfl rfl rfl (by as_aux_lemma => kernel_rfl) (by as_aux_lemma => kernel_rfl) (by as_aux_lemma => kernel_rfl) (PQ.next PQ.body) ?_
    refine D.take 86 (y_assign rfl rfl) rfl rfl rfl rfl (by as_aux_lemma => kernel_rfl) (by as_aux_lemma => kernel_rfl) (by as_aux_lemma => kernel_rfl) (PQ.next PQ.body) ?_
    refine D.done (by as_aux_lemma => kernel_rfl) ?_
    refine JQ.next hK90 ?_
    refine JC.ret ?_
    exact ret1 rfl (r_tmp rfl) fun w hs => by rw [decide_eq_false hnz]; exact Post.pure hs
end Go.Proofs.YtjkfeonbioccmaaDoor
