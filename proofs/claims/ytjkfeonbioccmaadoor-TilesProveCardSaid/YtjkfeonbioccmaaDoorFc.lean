/- Speculum proofs: contracts: the proof that one tree is another one's beginning. -/
import Derived.Test.YtjkfeonbioccmaaDoorFb
import Derived.Test.YtjkfeonbioccmaaDoorSxX
namespace Go.Proofs.YtjkfeonbioccmaaDoor
open Go Go.Sx Go.RowKit
set_option linter.unusedVariables false
set_option linter.unusedSimpArgs false
set_option maxRecDepth 100000
set_option maxHeartbeats 400000
variable {Gl F : World → Prop}

/-- A list of hashes that a call hands back as its own. -/
abbrev OwnL (l : List H) : Option Addr × Nat → List Chunk := fun i => [.row (.slice i.1 l.length i.2) 30 32 l.length (hcs l)]
theorem rsub_fn : ∀ (N : Nat) (l : List H) (m : Nat) (known : Bool) (A : Option Addr) (n k : Nat) (a : Int), n ≤ N → 1 ≤ m → m ≤ n → l.length = n → n ≤ k → n ≤ 100000 → a = m → ∀ F : World → Prop, (∀ w, F w → Sl w A (hcs l)) →
    FnSpec Tryd.prog Gl 108 [.slice A n k, .int .i64 a, .bool known] [] F (ι := Option Addr × Nat) (fun i => (sub l m known).length ≤ i.2 ∧ (sub l m known).length ≤ n) (fun i => .slice i.1 (sub l m known).length i.2) (OwnL (sub l m known)) (fun _ _ => True) := by
  intro N
  induction N with
  | zero => intro l m known A n k a h0 h1 h2; omega
  | succ N ih =>
    intro l m known A n k a h0 h1 h2 hn hk hM ha F hA
    subst ha
    refine FnSpec.intro Tryd.func108 rfl Tryd.ntmps108 rfl fun X M w => ?_
    refine JC.seq fun K1 hK1 => ?_
    refine JC.region ?_
    refine J.yl (y_assign rfl rfl) rfl rfl rfl ?_
    refine J.nil ?_
    refine JQ.next hK1 ?_
    refine JC.seq fun K2 hK2 => ?_
    refine JC.seq fun K3 hK3 => ?_
    refine JC.region ?_
    refine J.yl (y_move rfl rfl) rfl rfl rfl ?_
    refine J.yl (y_move rfl rfl) rfl rfl rfl ?_
    refine J.yl (y_len rfl Tryd.underlying22 rfl) rfl rfl rfl ?_
    refine J.ylp (y_eq rfl rfl rfl) rfl rfl rfl (fun hm => ?_) (fun hm => ?_)
    · have hmn : m = l.length := by omega
      refine J.yl (y_move rfl rfl) rfl rfl rfl ?_
      refine J.gyes (y_move rfl rfl) rfl rfl rfl rfl rfl rfl ?_
      refine J.yl (y_pick rfl rfl (fun _ => rfl) (fun h => by cases h)) rfl rfl rfl ?_
      refine J.nil ?_
      refine JQ.next hK3 ?_
      have hsub := sub_all l m known hmn
      cases known with
      | true =>
        have hsub : sub l m true = [] := hsub
        refine JC.yes rfl ?_
        refine JC.seq fun K4 hK4 => ?_
        refine JC.region ?_
        refine J.yl (y_assign rfl rfl) rfl rfl rfl ?_
        refine J.nil ?_
        refine JQ.next hK4 ?_
        refine JC.ret ?_
        refine JQ.then_ret ?_
        rw [hsub]
        refine JQ.st ?_ (fun w hs => hs.nilrow 30 32)
        exact ret1 rfl (r_tmp rfl) fun w hs => Post.of_st hs (none, 0) ⟨Nat.le_refl _, Nat.zero_le _⟩ (List.Sublist.refl _) fun _ _ => trivial
      | false =>
        have hsub : sub l m false = [root l] := hsub
        refine JC.no rfl ?_
        refine JC.skip ?_
        refine JQ.next hK2 ?_
        refine JC.seq fun K5 hK5 => ?_
        refine JC.seq fun K6 hK6 => ?_
        refine JC.region ?_
        refine J.yl (y_move rfl rfl) rfl rfl rfl ?_
        refine J.yl (y_move rfl rfl) rfl rfl rfl ?_
        refine J.yl (y_len rfl Tryd.underlying22 rfl) rfl rfl rfl ?_
        refine J.yl (y_eq rfl rfl rfl) rfl rfl rfl ?_
        refine J.nil ?_
        refine JQ.next hK6 ?_
        refine JC.condp rfl (fun h3 => ?_) (fun h3 => ?_)
        · refine JC.seq fun K7 hK7 => ?_
          refine JC.region ?_
          refine J.yl (y_move rfl rfl) rfl rfl rfl ?_
          refine J.callv rfl rfl rfl rfl Tb.cl86 rfl (rroot_spec n l A n k (by omega) hn hk (by omega) _ (fun w h => hA w h.1)) ?_
          refine J.bs1 rfl rfl rfl rfl rfl Tryd.underlying22 Tb.zz30 Tb.sz30 rfl (by decide) rfl (hcl _) fun g21 => ?_
          refine J.yl (y_assign rfl rfl) rfl rfl rfl ?_
          refine J.nil ?_
          refine JQ.next hK7 ?_
          refine JC.ret ?_
          refine JQ.then_ret ?_
          rw [hsub]
          refine JQ.st ?_ (fun w hs => hs.boxrow (n := 1) (sz := 32) 0 rfl (by rw [hcl]) (by omega))
          exact ret1 rfl (r_tmp rfl) fun w hs => Post.of_st hs (_, 1) ⟨Nat.le_refl _, by simp; omega⟩ (by simp only [OwnL, hcs_one]; exact List.Sublist.refl _) fun _ _ => trivial
        · omega
    · have hmn : ¬ m = l.length := by omega
      refine J.yl (y_move rfl rfl) rfl rfl rfl ?_
      refine J.gno (b := false) rfl rfl rfl rfl rfl rfl ?_
      refine J.yl (y_pick rfl rfl (fun h => by cases h) (fun _ => rfl)) rfl rfl rfl ?_
      refine J.nil ?_
      refine JQ.next hK3 ?_
      refine JC.no rfl ?_
      refine JC.skip ?_
      refine JQ.next hK2 ?_
      refine JC.seq fun K8 hK8 => ?_
      refine JC.seq fun K9 hK9 => ?_
      refine JC.region ?_
      refine J.yl (y_move rfl rfl) rfl rfl rfl ?_
      refine J.yl (y_move rfl rfl) rfl rfl rfl ?_
      refine J.yl (y_len rfl Tryd.underlying22 rfl) rfl rfl rfl ?_
      refine J.yl (y_eq rfl rfl rfl) rfl rfl rfl ?_
      refine J.nil ?_
      refine JQ.next hK9 ?_
      refine JC.condp rfl (fun h4 => ?_) (fun h4 => ?_)
      · omega
      · have h2l : 2 ≤ l.length := by omega
        have hs := split_spec h2l
        refine JC.skip ?_
        refine JQ.next hK8 ?_
        refine JC.seq fun K10 hK10 => ?_
        refine JC.region ?_
        refine J.yl (y_move rfl rfl) rfl rfl rfl ?_
        refine J.yl (y_len rfl Tryd.underlying22 rfl) rfl rfl rfl ?_
        refine J.callv rfl rfl rfl rfl Tb.cl145 rfl (rsplit_fn l.length _ (by omega) (by omega)) ?_
        refine J.yl (y_assign rfl rfl) rfl rfl rfl ?_
        refine J.nil ?_
        refine JQ.next hK10 ?_
        refine JC.seq fun K11 hK11 => ?_
        refine JC.seq fun K12 hK12 => ?_
        refine JC.region ?_
        refine J.yl (y_move rfl rfl) rfl rfl rfl ?_
        refine J.yl (y_move rfl rfl) rfl rfl rfl ?_
        refine J.yl (y_le rfl rfl rfl) rfl rfl rfl ?_
        refine J.nil ?_
        refine JQ.next hK12 ?_
        subst hn
        refine JC.condp rfl (fun h5 => ?_) (fun h5 => ?_)
        · have hsub := sub_left l m known h1 (by omega) (by omega)
          refine JC.seq fun K13 hK13 => ?_
          refine JC.drawM [] (by kernel_rfl) ?_
          refine D.take 0 (y_move rfl rfl) rfl rfl rfl rfl (by kernel_rfl) (by kernel_rfl) (by kernel_rfl) (PQ.next (PQ.next PQ.body)) ?_
          refine D.take 1 (y_move rfl rfl) rfl rfl rfl rfl (by kernel_rfl) (by kernel_rfl) (by kernel_rfl) (PQ.next (PQ.next PQ.body)) ?_
          refine D.take 3 (y_move rfl rfl) rfl rfl rfl rfl (by kernel_rfl) (by kernel_rfl) (by kernel_rfl) (PQ.next (PQ.next PQ.body)) ?_
          refine D.take 4 (y_move rfl rfl) rfl rfl rfl rfl (by kernel_rfl) (by kernel_rfl) (by kernel_rfl) (PQ.next (PQ.next PQ.body)) ?_
          refine D.take 6 (y_move rfl rfl) rfl rfl rfl rfl (by kernel_rfl) (by kernel_rfl) (by kernel_rfl) (PQ.next (PQ.next PQ.body)) ?_
          refine D.take 7 (y_move rfl rfl) rfl rfl rfl rfl (by kernel_rfl) (by kernel_rfl) (by kernel_rfl) (PQ.next (PQ.next PQ.body)) ?_
          refine D.take 2 (y_cuttoN (split l.length) rfl Tryd.underlying22 Tb.sz30 rfl rfl rfl (by omega)) rfl rfl rfl rfl (by kernel_rfl) (by kernel_rfl) (by kernel_rfl) (PQ.next (PQ.next PQ.body)) ?_
          refine D.take 8 (y_cutfromN (split l.length) rfl Tryd.underlying22 Tb.sz30 rfl rfl rfl (by omega)) rfl rfl rfl rfl (by kernel_rfl) (by kernel_rfl) (by kernel_rfl) (PQ.next (PQ.next PQ.body)) ?_
          refine D.ofJ 5 (by kernel_rfl) rfl fun KhK15 hK15 => ?_
          refine J.callR (Cin := []) rfl rfl rfl rfl Tb.cl108 rfl rfl (ih (l.take (split l.length)) m known A _ _ _ (by omega) h1 (by omega) (by rw [List.length_take]; omega) (by omega) (by omega) rfl _ (fun w h => (hA w h.1).htake _)) ?_
          rintro ⟨B, j⟩ ⟨hj, hjN⟩
          refine J.nil ?_
          refine hK15 _ _ _ (fun w hs => hs.mask [false]) ?_
          refine D.ofJ 9 (by kernel_rfl) rfl fun KhK17 hK17 => ?_
          refine J.callv rfl rfl rfl rfl Tb.cl86 rfl (rroot_spec l.length (l.drop (split l.length)) _ _ _ (by rw [List.length_drop]; omega) (by rw [List.length_drop]) (by omega) (by omega) _ (fun w h => (hA w h.1).hdrop _ _ hk (by omega))) ?_
          refine J.nil ?_
          refine hK17 _ _ _ (fun w hs => hs.mask [false]) ?_
          refine D.ofJ 10 (by kernel_rfl) rfl fun KhK18 hK18 => ?_
          refine J.bs1 rfl rfl rfl rfl rfl Tryd.underlying22 Tb.zz30 Tb.sz30 rfl (by decide) rfl (hcl _) fun g38 => ?_
          refine J.nil ?_
          refine hK18 _ _ _ (fun w hs => hs.mask [false, false]) ?_
          refine D.ofJ 11 (by kernel_rfl) rfl fun KhK19 hK19 => ?_
          refine J.append 1 rfl rfl rfl rfl rfl rfl Tryd.underlying22 Tb.zz30 Tb.sz30 Tb.by30 rfl (by decide) rfl (by rw [hcl]) (fun w hs => .inr ⟨rfl, At.box (hs.get (i := 0) rfl)⟩) (hc1 _) (by omega) (by decide) (show _ = (sub (l.take (split l.length)) m known ++ [root (l.drop (split l.length))]).length by simp) (show _ = hcs (sub (l.take (split l.length)) m known ++ [root (l.drop (split l.length))]) by rw [hcs_append, hcs_one]) fun A k hAx hkx => ?_
          refine J.drop ?_
          refine J.nil ?_
          refine hK19 _ _ _ (fun w hs => hs.mask [false]) ?_
          refine D.take 12 (y_assign rfl rfl) rfl rfl rfl rfl (by kernel_rfl) (by kernel_rfl) (by kernel_rfl) (PQ.next (PQ.next PQ.body)) ?_
          refine D.done (by kernel_rfl) ?_
          refine JQ.next hK13 ?_
          refine JC.ret ?_
          refine JQ.then_ret ?_
          exact ret1 rfl (r_tmp rfl) fun w hs => by rw [hsub]; exact Post.of_st hs (A, k) ⟨hkx, by rw [List.length_append]; simp; omega⟩ (List.Sublist.refl _) fun _ _ => trivial
        · have hsub := sub_right l m known (by omega) (by omega)
          refine JC.skip ?_
          refine JQ.next hK11 ?_
          refine JC.seq fun K21 hK21 => ?_
          refine JC.drawM [] (by kernel_rfl) ?_
          refine D.take 0 (y_move rfl rfl) rfl rfl rfl rfl (by kernel_rfl) (by kernel_rfl) (by kernel_rfl) (PQ.next PQ.body) ?_
          refine D.take 1 (y_move rfl rfl) rfl rfl rfl rfl (by kernel_rfl) (by kernel_rfl) (by kernel_rfl) (PQ.next PQ.body) ?_
          refine D.take 3 (y_move rfl rfl) rfl rfl rfl rfl (by kernel_rfl) (by kernel_rfl) (by kernel_rfl) (PQ.next PQ.body) ?_
          refine D.take 4 (y_move rfl rfl) rfl rfl rfl rfl (by kernel_rfl) (by kernel_rfl) (by kernel_rfl) (PQ.next PQ.body) ?_
          refine D.take 5 (y_sub64 rfl rfl rfl (by omega)) rfl rfl rfl rfl (by kernel_rfl) (by kernel_rfl) (by kernel_rfl) (PQ.next PQ.body) ?_
          refine D.take 7 (y_move rfl rfl) rfl rfl rfl rfl (by kernel_rfl) (by kernel_rfl) (by kernel_rfl) (PQ.next PQ.body) ?_
          refine D.take 8 (y_move rfl rfl) rfl rfl rfl rfl (by kernel_rfl) (by kernel_rfl) (by kernel_rfl) (PQ.next PQ.body) ?_
          refine D.take 2 (y_cutfromN (split l.length) rfl Tryd.underlying22 Tb.sz30 rfl rfl rfl (by omega)) rfl rfl rfl rfl (by kernel_rfl) (by kernel_rfl) (by kernel_rfl) (PQ.next PQ.body) ?_
          refine D.take 9 (y_cuttoN (split l.length) rfl Tryd.underlying22 Tb.sz30 rfl rfl rfl (by omega)) rfl rfl rfl rfl (by kernel_rfl) (by kernel_rfl) (by kernel_rfl) (PQ.next PQ.body) ?_
          refine D.ofJ 6 (by kernel_rfl) rfl fun KhK23 hK23 => ?_
          refine J.callR (Cin := []) rfl rfl rfl rfl Tb.cl108 rfl rfl (ih (l.drop (split l.length)) (m - split l.length) false _ _ _ _ (by omega) (by omega) (by omega) (by rw [List.length_drop]) (by omega) (by omega) (by omega) _ (fun w h => (hA w h.1).hdrop _ _ hk (by omega))) ?_
          rintro ⟨B, j⟩ ⟨hj, hjN⟩
          refine J.nil ?_
          refine hK23 _ _ _ (fun w hs => hs.mask [false]) ?_
          refine D.ofJ 10 (by kernel_rfl) rfl fun KhK25 hK25 => ?_
          refine J.callv rfl rfl rfl rfl Tb.cl86 rfl (rroot_spec l.length (l.take (split l.length)) A _ _ (by rw [List.length_take]; omega) (by rw [List.length_take]; omega) (by omega) (by omega) _ (fun w h => (hA w h.1).htake _)) ?_
          refine J.nil ?_
          refine hK25 _ _ _ (fun w hs => hs.mask [false]) ?_
          refine D.ofJ 11 (by kernel_rfl) rfl fun KhK26 hK26 => ?_
          refine J.bs1 rfl rfl rfl rfl rfl Tryd.underlying22 Tb.zz30 Tb.sz30 rfl (by decide) rfl (hcl _) fun g51 => ?_
          refine J.nil ?_
          refine hK26 _ _ _ (fun w hs => hs.mask [false, false]) ?_
          refine D.ofJ 12 (by kernel_rfl) rfl fun KhK27 hK27 => ?_
          refine J.append 1 rfl rfl rfl rfl rfl rfl Tryd.underlying22 Tb.zz30 Tb.sz30 Tb.by30 rfl (by decide) rfl (by rw [hcl]) (fun w hs => .inr ⟨rfl, At.box (hs.get (i := 0) rfl)⟩) (hc1 _) (by omega) (by decide) (show _ = (sub (l.drop (split l.length)) (m - split l.length) false ++ [root (l.take (split l.length))]).length by simp) (show _ = hcs (sub (l.drop (split l.length)) (m - split l.length) false ++ [root (l.take (split l.length))]) by rw [hcs_append, hcs_one]) fun A k hAx hkx => ?_
          refine J.drop ?_
          refine J.nil ?_
          refine hK27 _ _ _ (fun w hs => hs.mask [false]) ?_
          refine D.take 13 (y_assign rfl rfl) rfl rfl rfl rfl (by kernel_rfl) (by kernel_rfl) (by kernel_rfl) (PQ.next PQ.body) ?_
          refine D.done (by kernel_rfl) ?_
          refine JQ.next hK21 ?_
          refine JC.ret ?_
          exact ret1 rfl (r_tmp rfl) fun w hs => by rw [hsub]; exact Post.of_st hs (A, k) ⟨hkx, by rw [List.length_append]; simp; omega⟩ (List.Sublist.refl _) fun _ _ => trivial
theorem rproof_fn (l : List H) (m : Int) (A : Option Addr) (n k : Nat) (hn : l.length = n) (hk : n ≤ k) (hM : n ≤ 100000) (hA : ∀ w, F w → Sl w A (hcs l)) :
    FnSpec Tryd.prog Gl 25 [.slice A n k, .int .i64 m] [] F (ι := Option Addr × Nat) (fun i => (prf l m).length ≤ i.2 ∧ (prf l m).length ≤ n) (fun i => .tuple #[.slice i.1 (prf l m).length i.2, .int .i64 (prfE l m)]) (OwnL (prf l m)) (fun _ _ => True) := by
  have hnil : m ≤ 0 ∨ (l.length : Int) < m → prf l m = [] := fun h => if_pos h
  have hsub : ¬ (m ≤ 0 ∨ (l.length : Int) < m) → prf l m = sub l m.toNat true := fun h => if_neg h
  have hE2 : m < 0 ∨ (l.length : Int) < m → prfE l m = 2 := fun h => if_pos h
  have hE0 : ¬ (m < 0 ∨ (l.length : Int) < m) → prfE l m = 0 := fun h => if_neg h
  refine FnSpec.intro Tryd.func25 rfl Tryd.ntmps25 rfl fun X M w => ?_
  refine JC.seq fun K1 hK1 => ?_
  refine JC.region ?_
  refine J.yl (y_assign rfl rfl) rfl rfl rfl ?_
  refine J.yl (y_assign rfl rfl) rfl rfl rfl ?_
  refine J.nil ?_
  refine JQ.next hK1 ?_
  refine JC.seq fun K2 hK2 => ?_
  refine JC.seq fun K3 hK3 => ?_
  refine JC.region ?_
  refine J.yl (y_move rfl rfl) rfl rfl rfl ?_
  refine J.ylp (y_lt rfl rfl rfl) rfl rfl rfl (fun h1 => ?_) (fun h1 => ?_)
  · refine J.yl (y_move rfl rfl) rfl rfl rfl ?_
    refine J.gno (b := true) rfl rfl rfl rfl rfl rfl ?_
    refine J.gno (b := true) rfl rfl rfl rfl rfl rfl ?_
    refine J.gno (b := true) rfl rfl rfl rfl rfl rfl ?_
    refine J.gno (b := true) rfl rfl rfl rfl rfl rfl ?_
    refine J.yl (y_pick rfl rfl (fun _ => rfl) (fun h => by cases h)) rfl rfl rfl ?_
    refine J.nil ?_
    refine JQ.next hK3 ?_
    refine JC.yes rfl ?_
    refine JC.seq fun K4 hK4 => ?_
    refine JC.region ?_
    refine J.yl (y_assign rfl rfl) rfl rfl rfl ?_
    refine J.yl (y_assign rfl rfl) rfl rfl rfl ?_
    refine J.nil ?_
    refine JQ.next hK4 ?_
    refine JC.ret ?_
    refine JQ.then_ret ?_
    refine JQ.st ?_ (fun w hs => hs.nilrow 30 32)
    exact ret2 rfl (r_tmp rfl) (r_tmp rfl) fun w hs => by rw [hnil (by omega), hE2 (by omega)]; exact Post.of_st hs (none, 0) ⟨Nat.le_refl _, Nat.zero_le _⟩ (List.Sublist.refl _) fun _ _ => trivial
  · refine J.yl (y_move rfl rfl) rfl rfl rfl ?_
    refine J.gyes (y_move rfl rfl) rfl rfl rfl rfl rfl rfl ?_
    refine J.gyes (y_move rfl rfl) rfl rfl rfl rfl rfl rfl ?_
    refine J.gyes (y_len rfl Tryd.underlying22 rfl) rfl rfl rfl rfl rfl rfl ?_
    refine J.gyes (y_gt rfl rfl rfl) rfl rfl rfl rfl rfl rfl ?_
    refine J.yl (y_pick rfl rfl (fun h => by cases h) (fun _ => rfl)) rfl rfl rfl ?_
    refine J.nil ?_
    refine JQ.next hK3 ?_
    refine JC.condp rfl (fun h2 => ?_) (fun h2 => ?_)
    · refine JC.seq fun K5 hK5 => ?_
      refine JC.region ?_
      refine J.yl (y_assign rfl rfl) rfl rfl rfl ?_
      refine J.yl (y_assign rfl rfl) rfl rfl rfl ?_
      refine J.nil ?_
      refine JQ.next hK5 ?_
      refine JC.ret ?_
      refine JQ.then_ret ?_
      refine JQ.st ?_ (fun w hs => hs.nilrow 30 32)
      exact ret2 rfl (r_tmp rfl) (r_tmp rfl) fun w hs => by rw [hnil (by omega), hE2 (by omega)]; exact Post.of_st hs (none, 0) ⟨Nat.le_refl _, Nat.zero_le _⟩ (List.Sublist.refl _) fun _ _ => trivial
    · refine JC.skip ?_
      refine JQ.next hK2 ?_
      refine JC.seq fun K6 hK6 => ?_
      refine JC.seq fun K7 hK7 => ?_
      refine JC.region ?_
      refine J.yl (y_move rfl rfl) rfl rfl rfl ?_
      refine J.yl (y_eq rfl rfl rfl) rfl rfl rfl ?_
      refine J.nil ?_
      refine JQ.next hK7 ?_
      refine JC.condp rfl (fun h3 => ?_) (fun h3 => ?_)
      · refine JC.seq fun K8 hK8 => ?_
        refine JC.region ?_
        refine J.yl (y_assign rfl rfl) rfl rfl rfl ?_
        refine J.yl (y_assign rfl rfl) rfl rfl rfl ?_
        refine J.nil ?_
        refine JQ.next hK8 ?_
        refine JC.ret ?_
        refine JQ.then_ret ?_
        refine JQ.st ?_ (fun w hs => hs.nilrow 30 32)
        exact ret2 rfl (r_tmp rfl) (r_tmp rfl) fun w hs => by rw [hnil (by omega), hE0 (by omega)]; exact Post.of_st hs (none, 0) ⟨Nat.le_refl _, Nat.zero_le _⟩ (List.Sublist.refl _) fun _ _ => trivial
      · refine JC.skip ?_
        refine JQ.next hK6 ?_
        refine JC.seq fun K9 hK9 => ?_
        refine JC.region ?_
        refine J.yl (y_move rfl rfl) rfl rfl rfl ?_
        refine J.yl (y_move rfl rfl) rfl rfl rfl ?_
        refine J.callR (Cin := []) rfl rfl rfl rfl Tb.cl108 rfl rfl (rsub_fn n l m.toNat true A n k m (Nat.le_refl _) (by omega) (by omega) hn hk hM (by omega) _ (fun w h => hA w h.1)) ?_
        rintro ⟨B, j⟩ ⟨hj, hjN⟩
        refine J.yl (y_assign rfl rfl) rfl rfl rfl ?_
        refine J.yl (y_assign rfl rfl) rfl rfl rfl ?_
        refine J.nil ?_
        refine JQ.next hK9 ?_
        refine JC.ret ?_
        exact ret2 rfl (r_tmp rfl) (r_tmp rfl) fun w hs => by rw [hsub (by omega), hE0 (by omega)]; exact Post.of_st hs (B, j) ⟨hj, hjN⟩ (List.Sublist.refl _) fun _ _ => trivial
end Go.Proofs.YtjkfeonbioccmaaDoor
