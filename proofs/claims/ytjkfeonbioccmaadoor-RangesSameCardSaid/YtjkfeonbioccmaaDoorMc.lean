/- Speculum proofs: contracts of the hash's functions. -/
/- Speculum proofs: contracts of the hash's functions: the sums. -/
/- Speculum proofs: contracts of the reference's hash. -/
/- Speculum proofs: contracts of the reference's hash: its sum. -/
/- Speculum proofs: trees in plain words: leaves, nodes, roots, splits. No program in sight. -/
import Derived.Test.YtjkfeonbioccmaaDoorTb
import Derived.Test.YtjkfeonbioccmaaDoorMb
import Derived.Test.YtjkfeonbioccmaaDoorShelf
namespace Go.Proofs.YtjkfeonbioccmaaDoor
open Go Go.Sx Go.RowKit
set_option linter.unusedVariables false
set_option linter.unusedSimpArgs false
set_option maxRecDepth 100000
set_option maxHeartbeats 4000000
variable {Gl F : World → Prop}

theorem neg31 (k : Nat) (h : 0 < k ∧ k < 32) : IntKind.u64.wrap ((BitVec.ofInt IntKind.u64.bits (IntKind.u64.wrap (-((k : Int) % 32))) &&& BitVec.ofInt IntKind.u64.bits 31).toNat) = ((32 - k : Nat) : Int) := by
  have : ∀ k : Fin 32, 0 < k.val → IntKind.u64.wrap ((BitVec.ofInt 64 (IntKind.u64.wrap (-((k.val : Int) % 32))) &&& BitVec.ofInt 64 31).toNat) = ((32 - k.val : Nat) : Int) := by decide
  exact this ⟨k, h.2⟩ h.1
theorem rol_spec (x : UInt32) (k : Nat) (h : 0 < k ∧ k < 32) : PureFn Tryd.prog Gl 218 [u32 x, .int .i64 (-((k : Int) % 32))] F (u32 (rotr x k)) := by
  refine FnSpec.intro Tryd.func218 rfl Tryd.ntmps218 rfl fun X M w => ?_
  refine JC.seq fun K1 hK1 => ?_
  refine JC.region ?_
  refine J.yl (y_assign rfl rfl) rfl rfl rfl ?_
  refine J.nil ?_
  refine JQ.next hK1 ?_
  refine JC.seq fun K2 hK2 => ?_
  refine JC.region ?_
  refine J.yl (y_move rfl rfl) rfl rfl rfl ?_
  refine J.yl (y_conv rfl (isS Tryd.underlying3) Tryd.underlying207 rfl rfl) rfl rfl rfl ?_
  refine J.yl (y_and rfl rfl rfl (neg31 k h)) rfl rfl rfl ?_
  refine J.yl (y_assign rfl rfl) rfl rfl rfl ?_
  refine J.nil ?_
  refine JQ.next hK2 ?_
  refine JC.seq fun K3 hK3 => ?_
  refine JC.region ?_
  refine J.yl (y_move rfl rfl) rfl rfl rfl ?_
  refine J.yl (y_move rfl rfl) rfl rfl rfl ?_
  refine J.yl (y_shl32 (n := 32 - k) rfl rfl rfl (by omega)) rfl rfl rfl ?_
  refine J.yl (y_move rfl rfl) rfl rfl rfl ?_
  refine J.yl (y_move rfl rfl) rfl rfl rfl ?_
  refine J.yl (y_sub (r := ((k : Nat) : Int)) rfl rfl rfl (by rw [IntKind.wrap_u64]; omega)) rfl rfl rfl ?_
  refine J.yl (y_shr32 (n := k) rfl rfl rfl (by omega)) rfl rfl rfl ?_
  refine J.yl (y_or32 rfl rfl rfl) rfl rfl rfl ?_
  refine J.yl (y_assign rfl rfl) rfl rfl rfl ?_
  refine J.nil ?_
  refine JQ.next hK3 ?_
  refine JC.ret ?_
  exact ret1 rfl (r_tmp rfl) fun w hs => Post.pure hs
theorem right_spec (x : UInt32) (k : Nat) (h : 0 < k ∧ k < 32) : PureFn Tryd.prog Gl 196 [u32 x, .int .i64 (k : Int)] F (u32 (rotr x k)) := by
  refine FnSpec.intro Tryd.func196 rfl Tryd.ntmps196 rfl fun X M w => ?_
  refine JC.seq fun K1 hK1 => ?_
  refine JC.region ?_
  refine J.yl (y_assign rfl rfl) rfl rfl rfl ?_
  refine J.nil ?_
  refine JQ.next hK1 ?_
  refine JC.seq fun K2 hK2 => ?_
  refine JC.region ?_
  refine J.yl (y_move rfl rfl) rfl rfl rfl ?_
  refine J.yl (y_move rfl rfl) rfl rfl rfl ?_
  refine J.yl (y_rem64 rfl rfl rfl (by omega)) rfl rfl rfl ?_
  refine J.yl (y_neg rfl rfl (by omega)) rfl rfl rfl ?_
  refine J.callv rfl rfl rfl rfl Tb.cl218 rfl (rol_spec x k h) ?_
  refine J.yl (y_assign rfl rfl) rfl rfl rfl ?_
  refine J.nil ?_
  refine JQ.next hK2 ?_
  refine JC.ret ?_
  exact ret1 rfl (r_tmp rfl) fun w hs => Post.pure hs
theorem turn_spec (x : UInt32) (k : Nat) (h : 0 < k ∧ k < 32) : PureFn Tryd.prog Gl 162 [u32 x, .int .u32 (k : Int)] F (u32 (rotr x k)) := by
  refine FnSpec.intro Tryd.func162 rfl Tryd.ntmps162 rfl fun X M w => ?_
  refine JC.seq fun K1 hK1 => ?_
  refine JC.region ?_
  refine J.yl (y_assign rfl rfl) rfl rfl rfl ?_
  refine J.nil ?_
  refine JQ.next hK1 ?_
  refine JC.seq fun K2 hK2 => ?_
  refine JC.region ?_
  refine J.yl (y_move rfl rfl) rfl rfl rfl ?_
  refine J.yl (y_move rfl rfl) rfl rfl rfl ?_
  refine J.yl (y_shr32 (n := k) rfl rfl rfl (by omega)) rfl rfl rfl ?_
  refine J.yl (y_move rfl rfl) rfl rfl rfl ?_
  refine J.yl (y_move rfl rfl) rfl rfl rfl ?_
  refine J.yl (y_sub (r := ((32 - k : Nat) : Int)) rfl rfl rfl (by rw [IntKind.wrap_u32]; omega)) rfl rfl rfl ?_
  refine J.yl (y_shl32 (n := 32 - k) rfl rfl rfl (by omega)) rfl rfl rfl ?_
  refine J.yl (y_or32 rfl rfl rfl) rfl rfl rfl ?_
  refine J.yl (y_assign rfl rfl) rfl rfl rfl ?_
  refine J.nil ?_
  refine JQ.next hK2 ?_
  refine JC.ret ?_
  exact ret1 rfl (r_tmp rfl) fun w hs => by rw [rotr_alt]; exact Post.pure hs
theorem get_spec (l : List UInt8) (hl : l.length ≤ 8) : PureFn Tryd.prog Gl 217 [str l] F (u64 (getB l)) := by
  refine FnSpec.intro Tryd.func217 rfl Tryd.ntmps217 rfl fun X M w => ?_
  refine JC.seq fun K1 hK1 => ?_
  refine JC.region ?_
  refine J.yl (y_assign rfl rfl) rfl rfl rfl ?_
  refine J.nil ?_
  refine JQ.next hK1 ?_
  refine JC.seq fun K2 hK2 => ?_
  refine JC.region ?_
  refine J.yl (y_assign rfl rfl) rfl rfl rfl ?_
  refine J.nil ?_
  refine JQ.next hK2 ?_
  refine JC.seq fun K3 hK3 => ?_
  refine JC.seq fun K4 hK4 => ?_
  refine JC.region ?_
  refine J.yl (y_move rfl rfl) rfl rfl rfl ?_
  refine J.yl (y_slen (ty := 0) rfl Tryd.underlying9 rfl) rfl rfl rfl ?_
  refine J.yl (y_min rfl rfl rfl) rfl rfl rfl ?_
  refine J.yl (y_move rfl rfl) rfl rfl rfl ?_
  refine J.nil ?_
  refine JQ.next hK4 ?_
  refine JC.block ?_
  refine JC.loopE (σ := Nat) (M := fun i => [(8, .int .i64 (i : Int)), (3, u64 (getB (l.take i)))]) (kp := [(0, _), (7, _)]) (hkp := (okE_cons rfl (okE_cons rfl okE_nil))) (Dc := fun _ => []) (H := fun _ => F) (Ψ := fun i => i ≤ l.length) (μ := fun i => l.length - i) 0 (by omega) (okE_cons rfl (okE_cons rfl okE_nil)) (fun w h => h) (fun i hi K5 againK5 => ?_)
  refine JC.seq fun K6 hK6 => ?_
  refine JC.region ?_
  refine J.yl (y_lt rfl rfl rfl) rfl rfl rfl ?_
  refine J.nil ?_
  refine JQ.next hK6 ?_
  refine JC.seq fun K7 hK7 => ?_
  refine JC.condp rfl (fun h1 => ?_) (fun h1 => ?_)
  · refine JC.skip ?_
    refine JQ.next hK7 ?_
    refine JC.seq fun K8 hK8 => ?_
    refine JC.block ?_
    refine JC.seq fun K9 hK9 => ?_
    refine JC.region ?_
    refine J.yl (y_move rfl rfl) rfl rfl rfl ?_
    refine J.yl (y_assign rfl rfl) rfl rfl rfl ?_
    refine J.nil ?_
    refine JQ.next hK9 ?_
    refine JC.region ?_
    refine J.yl (y_move rfl rfl) rfl rfl rfl ?_
    refine J.yl (y_shl_u64 (n := 8) rfl rfl rfl (by decide)) rfl rfl rfl ?_
    refine J.yl (y_move rfl rfl) rfl rfl rfl ?_
    refine J.yl (y_move rfl rfl) rfl rfl rfl ?_
    refine J.yl (y_schar i rfl Tryd.underlying9 rfl rfl rfl (by omega)) rfl rfl rfl ?_
    refine J.yl (y_8to64 rfl (isS Tryd.underlying5) Tryd.underlying212 rfl) rfl rfl rfl ?_
    refine J.yl (y_add_u64 rfl rfl rfl) rfl rfl rfl ?_
    refine J.yl (y_assign rfl rfl) rfl rfl rfl ?_
    refine J.nil ?_
    refine JQ.block_normal (JQ.next hK8 ?_)
    refine JC.region ?_
    refine J.yl (y_add64 rfl rfl rfl (by omega)) rfl rfl rfl ?_
    refine J.yl (y_move rfl rfl) rfl rfl rfl ?_
    refine J.nil ?_
    have hb := getB_succ l (show i < l.length by omega)
    refine againK5 (i + 1) _ (by omega) (by omega) (okE_cons rfl (okE_cons (congrArg (fun q => some (u64 q)) hb.symm) okE_nil)) (okE_cons rfl (okE_cons rfl okE_nil))
  · refine JC.exit ?_
    refine JQ.then_exit (JQ.then_exit (JQ.block_hit (JQ.next hK3 ?_)))
    refine JC.seq fun K10 hK10 => ?_
    refine JC.region ?_
    refine J.yl (y_move rfl rfl) rfl rfl rfl ?_
    refine J.yl (y_assign rfl rfl) rfl rfl rfl ?_
    refine J.nil ?_
    refine JQ.next hK10 ?_
    refine JC.ret ?_
    have hi' : l.take i = l := List.take_of_length_le (by omega)
    rw [hi']
    exact ret1 rfl (r_tmp rfl) fun w hs => Post.pure hs
theorem put_spec (n : UInt64) (k : Nat) (hk : 1 ≤ k ∧ k ≤ 8) : PureFn Tryd.prog Gl 165 [u64 n, .int .i64 (k : Int)] F (str (putB n k)) := by
  refine FnSpec.intro Tryd.func165 rfl Tryd.ntmps165 rfl fun X M w => ?_
  refine JC.seq fun K1 hK1 => ?_
  refine JC.region ?_
  refine J.yl (y_assign rfl rfl) rfl rfl rfl ?_
  refine J.nil ?_
  refine JQ.next hK1 ?_
  refine JC.seq fun K2 hK2 => ?_
  refine JC.seq fun K3 hK3 => ?_
  refine JC.region ?_
  refine J.yl (y_move rfl rfl) rfl rfl rfl ?_
  refine J.ylp (y_lt rfl rfl rfl) rfl rfl rfl (fun h1 => ?_) (fun h1 => ?_)
  · omega
  refine J.yl (y_move rfl rfl) rfl rfl rfl ?_
  refine J.gyes (y_move rfl rfl) rfl rfl rfl rfl rfl rfl ?_
  refine J.gyes (y_gt rfl rfl rfl) rfl rfl rfl rfl rfl rfl ?_
  refine J.yl (y_pick rfl rfl (fun h => by cases h) (fun _ => rfl)) rfl rfl rfl ?_
  refine J.nil ?_
  refine JQ.next hK3 ?_
  refine JC.condp rfl (fun h2 => ?_) (fun h2 => ?_)
  · omega
  refine JC.skip ?_
  refine JQ.next hK2 ?_
  refine JC.seq fun K4 hK4 => ?_
  refine JC.region ?_
  refine J.yl (y_move rfl rfl) rfl rfl rfl ?_
  refine J.makeN k (xs := (List.replicate (k - 0) 0 ++ putB n 0).map u8) rfl rfl rfl rfl rfl rfl Tryd.underlying205 Tb.zz5 Tb.sz5 Tb.by5 rfl rfl rfl (by omega) (by decide) (by rw [rep_one]; simp [putB, u8]) fun g => ?_
  refine J.yl (y_assign rfl rfl) rfl rfl rfl ?_
  refine J.nil ?_
  refine JQ.next hK4 ?_
  refine JC.seq fun K5 hK5 => ?_
  refine JC.seq fun K6 hK6 => ?_
  refine JC.region ?_
  refine J.yl (y_move rfl rfl) rfl rfl rfl ?_
  refine J.yl (y_move rfl rfl) rfl rfl rfl ?_
  refine J.nil ?_
  refine JQ.next hK6 ?_
  refine JC.block ?_
  refine JC.loopE (σ := Nat × UInt64) (M := fun s => [(16, .int .i64 (s.1 : Int)), (0, u64 s.2)]) (kp := [(1, _), (5, _), (15, _)]) (hkp := (okE_cons rfl (okE_cons rfl (okE_cons rfl okE_nil)))) (Dc := fun s => [.row (.slice (some ⟨g, 0, none⟩) k k) 5 1 k ((List.replicate (k - s.1) 0 ++ putB n s.1).map u8)]) (H := fun _ => F) (Ψ := fun s => s.1 ≤ k ∧ (s.1 < k → s.2 = n >>> UInt64.ofNat (8 * s.1))) (μ := fun s => k - s.1) (0, n) ⟨by omega, fun _ => by simp⟩ (okE_cons rfl (okE_cons rfl okE_nil)) (fun w h => h) (fun sK7 hK7 K7 againK7 => ?_)
  obtain ⟨i, nv⟩ := sK7
  dsimp only at hK7 againK7 ⊢
  obtain ⟨hi, hnv⟩ := hK7
  refine JC.seq fun K8 hK8 => ?_
  refine JC.region ?_
  refine J.yl (y_lt rfl rfl rfl) rfl rfl rfl ?_
  refine J.nil ?_
  refine JQ.next hK8 ?_
  refine JC.seq fun K9 hK9 => ?_
  refine JC.condp rfl (fun h3 => ?_) (fun h3 => ?_)
  · refine JC.skip ?_
    refine JQ.next hK9 ?_
    refine JC.seq fun K10 hK10 => ?_
    refine JC.block ?_
    refine JC.seq fun K11 hK11 => ?_
    refine JC.region ?_
    refine J.yl (y_move rfl rfl) rfl rfl rfl ?_
    refine J.yl (y_assign rfl rfl) rfl rfl rfl ?_
    refine J.nil ?_
    refine JQ.next hK11 ?_
    refine JC.seq fun K12 hK12 => ?_
    refine JC.region ?_
    refine J.yl (y_move rfl rfl) rfl rfl rfl ?_
    refine J.yl (y_move rfl rfl) rfl rfl rfl ?_
    refine J.yl (y_sub64 rfl rfl rfl (by omega)) rfl rfl rfl ?_
    refine J.yl (y_move rfl rfl) rfl rfl rfl ?_
    refine J.yl (y_sub64 rfl rfl rfl (by omega)) rfl rfl rfl ?_
    refine J.yl (y_move rfl rfl) rfl rfl rfl ?_
    refine J.yl (y_64to8 rfl (isS Tryd.underlying212) Tryd.underlying5 rfl) rfl rfl rfl ?_
    refine J.yl (y_idxN (k - 1 - i) rfl Tryd.underlying205 Tb.sz5 rfl rfl (by omega) (by omega) (fun w hs => rfl)) rfl rfl rfl ?_
    have hn' := hnv (by omega)
    subst hn'
    refine J.storeR (vs := [u8 _]) (xs' := (List.replicate (k - (i + 1)) 0 ++ putB n (i + 1)).map u8) 0 rfl rfl rfl rfl rfl rfl rfl Tb.sz5 (by simp [length_putB]; omega) (by simp) (one1 rfl) (by rw [Nat.mul_one]; exact put_spl n k i (by omega)) ?_
    refine J.nil ?_
    refine JQ.next hK12 ?_
    refine JC.region ?_
    refine J.yl (y_move rfl rfl) rfl rfl rfl ?_
    refine J.yl (y_shr_u64 (n := 8) rfl rfl rfl (by decide)) rfl rfl rfl ?_
    refine J.yl (y_assign rfl rfl) rfl rfl rfl ?_
    refine J.nil ?_
    refine JQ.block_normal (JQ.next hK10 ?_)
    refine JC.region ?_
    refine J.yl (y_add64 rfl rfl rfl (by omega)) rfl rfl rfl ?_
    refine J.yl (y_move rfl rfl) rfl rfl rfl ?_
    refine J.nil ?_
    refine againK7 (i + 1, n >>> UInt64.ofNat (8 * i) >>> UInt64.ofNat 8) _ ⟨by dsimp only; omega, fun h => shr_shr n i (by dsimp only at h; omega)⟩ (by dsimp only; omega) (okE_cons rfl (okE_cons rfl okE_nil)) (okE_cons rfl (okE_cons rfl (okE_cons rfl okE_nil)))
  · refine JC.exit ?_
    refine JQ.then_exit (JQ.then_exit (JQ.block_hit (JQ.next hK5 ?_)))
    refine JC.seq fun K13 hK13 => ?_
    refine JC.region ?_
    refine J.yl (y_move rfl rfl) rfl rfl rfl ?_
    obtain rfl : i = k := by omega
    refine J.yl (y_b2sN (bs := putB n i) rfl Tryd.underlying205 Tryd.underlying5 Tryd.underlying9 rfl (length_putB n i) (fun w hs => by have := Sl.of_row (hs.get (i := 0) rfl); simpa using this)) rfl rfl rfl ?_
    refine J.yl (y_assign rfl rfl) rfl rfl rfl ?_
    refine J.nil ?_
    refine JQ.next hK13 ?_
    refine JC.ret ?_
    exact ret1 rfl (r_tmp rfl) fun w hs => Post.pure hs

theorem PureFn.of_below {P : Program} {f : FuncId} {args : List Value} {v : Value} (h : ∀ w, Calls P f args.toArray w fun e w' => e = .returned v ∧ Below w.heap.size w w') : PureFn P Gl f args F v := fun n X M w hst =>
  (h w).mono fun e w' ⟨he, hb⟩ => ⟨(), trivial, he, ⟨hb.os, hb.tape, hb.output, hb.size, fun k hk _ => hb.block k hk⟩, by simp, by simp, by simp [Apart], fun _ _ => trivial⟩
theorem repeatL_one (b : UInt8) (k : Nat) : Lib.repeatL [b] k = List.replicate k b := by
  induction k with
  | zero => rfl
  | succ k ih => rw [Lib.repeatL, ih]; rfl
theorem rep_spec (b : UInt8) (k : Nat) (a : Int) (ha : a = k) (hk : k ≤ 1000) : PureFn Tryd.prog Gl 194 [str [b], .int .i64 a] F (str (List.replicate k b)) := by
  subst ha
  refine PureFn.of_below fun w => ?_
  have h := Tryd.strings_Repeat ⟨#[b]⟩ k w (by omega) (by show 1 * k ≤ _; omega)
  rw [show Lib.repeatL (ByteArray.mk #[b]).data.toList k = List.replicate k b from repeatL_one b k] at h
  exact h
theorem filled_spec (s : List UInt8) (hl : s.length ≤ 1000000000) : PureFn Tryd.prog Gl 163 [str s] F (str (padded s)) := by
  have hp : padN s.length < 64 := by unfold padN; omega
  refine FnSpec.intro Tryd.func163 rfl Tryd.ntmps163 rfl fun X M w => ?_
  refine JC.seq fun K1 hK1 => ?_
  refine JC.region ?_
  refine J.yl (y_assign rfl rfl) rfl rfl rfl ?_
  refine J.nil ?_
  refine JQ.next hK1 ?_
  refine JC.seq fun K2 hK2 => ?_
  refine JC.region ?_
  refine J.yl (y_move rfl rfl) rfl rfl rfl ?_
  refine J.yl (y_slen (ty := 0) rfl Tryd.underlying9 rfl) rfl rfl rfl ?_
  refine J.yl (y_rem64 rfl rfl rfl (by omega)) rfl rfl rfl ?_
  refine J.yl (y_sub64 rfl rfl rfl (by omega)) rfl rfl rfl ?_
  refine J.yl (y_rem64 rfl rfl rfl (by omega)) rfl rfl rfl ?_
  refine J.yl (y_assign rfl rfl) rfl rfl rfl ?_
  refine J.nil ?_
  refine JQ.next hK2 ?_
  refine JC.seq fun K3 hK3 => ?_
  refine JC.region ?_
  refine J.yl (y_move rfl rfl) rfl rfl rfl ?_
  refine J.yl (y_sadd (b := [128]) rfl rfl rfl (by simp only [List.length_append, List.length_cons, List.length_nil, H.l, List.length_replicate, length_putB]; omega)) rfl rfl rfl ?_
  refine J.yl (y_move rfl rfl) rfl rfl rfl ?_
  refine J.callv rfl rfl rfl rfl Tb.cl194 rfl (rep_spec 0 (padN s.length) _ (by unfold padN; omega) (by unfold padN; omega)) ?_
  refine J.yl (y_sadd rfl rfl rfl (by simp only [List.length_append, List.length_cons, List.length_nil, H.l, List.length_replicate, length_putB]; omega)) rfl rfl rfl ?_
  refine J.yl (y_move rfl rfl) rfl rfl rfl ?_
  refine J.yl (y_slen (ty := 0) rfl Tryd.underlying9 rfl) rfl rfl rfl ?_
  refine J.yl (y_ito64 rfl (isS Tryd.underlying3) Tryd.underlying212 rfl (by omega)) rfl rfl rfl ?_
  refine J.yl (y_mul_u64 (b := 8) rfl rfl rfl) rfl rfl rfl ?_
  refine J.callv rfl rfl rfl rfl Tb.cl165 rfl (put_spec _ 8 (by omega)) ?_
  refine J.yl (y_sadd rfl rfl rfl (by simp only [List.length_append, List.length_cons, List.length_nil, H.l, List.length_replicate, length_putB]; omega)) rfl rfl rfl ?_
  refine J.yl (y_assign rfl rfl) rfl rfl rfl ?_
  refine J.nil ?_
  refine JQ.next hK3 ?_
  refine JC.ret ?_
  exact ret1 rfl (r_tmp rfl) fun w hs => Post.pure hs
theorem spread_spec (m : List UInt8) (hm : m.length = 64) : PureFn Tryd.prog Gl 195 [str m] F (.agg ((wl m 64).map u32).toArray) := by
  refine FnSpec.intro Tryd.func195 rfl Tryd.ntmps195 rfl fun X M w => ?_
  refine JC.seq fun K1 hK1 => ?_
  refine JC.region ?_
  refine J.alloc rfl rfl rfl rfl Tb.zz203 rfl fun g2 => ?_
  refine J.nil ?_
  refine JQ.next hK1 ?_
  refine JC.seq fun K2 hK2 => ?_
  refine JC.seq fun K3 hK3 => ?_
  refine JC.region ?_
  refine J.yl (y_move rfl rfl) rfl rfl rfl ?_
  refine J.nil ?_
  refine JQ.next hK3 ?_
  refine JC.block ?_
  refine JC.loopE (σ := Nat × List UInt32) (M := fun s => [(6, .int .i64 (s.1 : Int))]) (kp := [(0, _), (2, _)]) (hkp := (okE_cons rfl (okE_cons rfl okE_nil))) (Dc := fun s => [.box g2 203 ((wl m s.1 ++ s.2).map u32)]) (H := fun _ => F) (Ψ := fun s => s.1 ≤ 64 ∧ s.2.length = 64 - s.1) (μ := fun s => 64 - s.1) (0, List.replicate 64 0) ⟨by decide, rfl⟩ (okE_cons rfl okE_nil) (fun w h => h) (fun sK4 hK4 K4 againK4 => ?_)
  obtain ⟨i, r⟩ := sK4
  dsimp only at hK4 againK4 ⊢
  obtain ⟨hi, hr⟩ := hK4
  refine JC.seq fun K5 hK5 => ?_
  refine JC.region ?_
  refine J.yl (y_lt rfl rfl rfl) rfl rfl rfl ?_
  refine J.nil ?_
  refine JQ.next hK5 ?_
  refine JC.seq fun K6 hK6 => ?_
  refine JC.condp rfl (fun h3 => ?_) (fun h3 => ?_)
  · refine JC.skip ?_
    refine JQ.next hK6 ?_
    refine JC.seq fun K7 hK7 => ?_
    refine JC.block ?_
    refine JC.seq fun K8 hK8 => ?_
    refine JC.region ?_
    refine J.yl (y_move rfl rfl) rfl rfl rfl ?_
    refine J.yl (y_assign rfl rfl) rfl rfl rfl ?_
    refine J.nil ?_
    refine JQ.next hK8 ?_
    refine JC.seq fun K9 hK9 => ?_
    refine JC.seq fun K10 hK10 => ?_
    refine JC.region ?_
    refine J.yl (y_move rfl rfl) rfl rfl rfl ?_
    refine J.yl (y_lt rfl rfl rfl) rfl rfl rfl ?_
    refine J.nil ?_
    refine JQ.next hK10 ?_
    have hrn : r ≠ [] := by rintro rfl; simp at hr; omega
    refine JC.condp rfl (fun h4 => ?_) (fun h4 => ?_)
    · refine JC.seq fun K11 hK11 => ?_
      refine JC.region ?_
      refine J.yl (y_move rfl rfl) rfl rfl rfl ?_
      refine J.yl (y_move rfl rfl) rfl rfl rfl ?_
      refine J.yl (y_move rfl rfl) rfl rfl rfl ?_
      refine J.yl (y_mul64 rfl rfl rfl (by omega)) rfl rfl rfl ?_
      refine J.yl (y_move rfl rfl) rfl rfl rfl ?_
      refine J.yl (y_mul64 rfl rfl rfl (by omega)) rfl rfl rfl ?_
      refine J.yl (y_add64 rfl rfl rfl (by omega)) rfl rfl rfl ?_
      refine J.yl (y_sliceN (4 * i) (4 * i + 4) rfl Tryd.underlying9 rfl rfl rfl (by omega) (by omega) (by omega)) rfl rfl rfl ?_
      refine J.callv rfl rfl rfl rfl Tb.cl217 rfl (get_spec _ (by simp; omega)) ?_
      refine J.yl (y_64to32 rfl (isS Tryd.underlying212) Tryd.underlying202 rfl) rfl rfl rfl ?_
      refine J.yl (y_ib1 i rfl Tryd.underlying203 Tb.sz202 rfl rfl rfl (by omega)) rfl rfl rfl ?_
      refine J.store1c (cs' := ((wl m (i + 1) ++ r.tail).map u32)) 0 rfl rfl rfl rfl rfl rfl rfl Tb.sz202 rfl (by simp [length_wl, hr]; omega) (by rw [getW_cut m i (by omega), ← wl_set m i r hrn, wv, if_pos (by omega)]) ?_
      refine J.nil ?_
      refine JQ.next hK11 ?_
      refine JC.exit ?_
      refine JQ.then_exit (JQ.block_hit (JQ.next hK7 ?_))
      refine JC.region ?_
      refine J.yl (y_add64 rfl rfl rfl (by omega)) rfl rfl rfl ?_
      refine J.yl (y_move rfl rfl) rfl rfl rfl ?_
      refine J.nil ?_
      refine againK4 (i + 1, r.tail) _ ⟨by dsimp only; omega, by simp [hr]; omega⟩ (by dsimp only; omega) (okE_cons rfl okE_nil) (okE_cons rfl (okE_cons rfl okE_nil))
    · refine JC.skip ?_
      refine JQ.next hK9 ?_
      refine JC.seq fun K12 hK12 => ?_
      refine JC.draw (by kernel_rfl) ?_
      refine D.take 0 (y_move rfl rfl) rfl rfl rfl rfl (by kernel_rfl) (by kernel_rfl) (by kernel_rfl) (PQ.next (PQ.block (PQ.next (PQ.next (PQ.block (PQ.next PQ.body)))))) ?_
      refine D.take 1 (y_sub64 rfl rfl rfl (by omega)) rfl rfl rfl rfl (by kernel_rfl) (by kernel_rfl) (by kernel_rfl) (PQ.next (PQ.block (PQ.next (PQ.next (PQ.block (PQ.next PQ.body)))))) ?_
      refine D.take 4 (y_move rfl rfl) rfl rfl rfl rfl (by kernel_rfl) (by kernel_rfl) (by kernel_rfl) (PQ.next (PQ.block (PQ.next (PQ.next (PQ.block (PQ.next PQ.body)))))) ?_
      refine D.take 5 (y_sub64 rfl rfl rfl (by omega)) rfl rfl rfl rfl (by kernel_rfl) (by kernel_rfl) (by kernel_rfl) (PQ.next (PQ.block (PQ.next (PQ.next (PQ.block (PQ.next PQ.body)))))) ?_
      refine D.take 2 (y_ib1 (i - 15) rfl Tryd.underlying203 Tb.sz202 rfl rfl (by omega) (by omega)) rfl rfl rfl rfl (by kernel_rfl) (by kernel_rfl) (by kernel_rfl) (PQ.next (PQ.block (PQ.next (PQ.next (PQ.block (PQ.next PQ.body)))))) ?_
      refine D.take 3 (y_lb 0 rfl Tb.ag202 rfl rfl (wl_get m i r (i - 15) (by omega))) rfl rfl rfl rfl (by kernel_rfl) (by kernel_rfl) (by kernel_rfl) (PQ.next (PQ.block (PQ.next (PQ.next (PQ.block (PQ.next PQ.body)))))) ?_
      refine D.take 8 (y_assign rfl rfl) rfl rfl rfl rfl (by kernel_rfl) (by kernel_rfl) (by kernel_rfl) (PQ.next (PQ.block (PQ.next (PQ.next (PQ.block (PQ.next PQ.body)))))) ?_
      refine D.take 6 (y_ib1 (i - 2) rfl Tryd.underlying203 Tb.sz202 rfl rfl (by omega) (by omega)) rfl rfl rfl rfl (by kernel_rfl) (by kernel_rfl) (by kernel_rfl) (PQ.next (PQ.block (PQ.next (PQ.next (PQ.block (PQ.next PQ.body)))))) ?_
      refine D.take 7 (y_lb 0 rfl Tb.ag202 rfl rfl (wl_get m i r (i - 2) (by omega))) rfl rfl rfl rfl (by kernel_rfl) (by kernel_rfl) (by kernel_rfl) (PQ.next (PQ.block (PQ.next (PQ.next (PQ.block (PQ.next PQ.body)))))) ?_
      refine D.take 9 (y_assign rfl rfl) rfl rfl rfl rfl (by kernel_rfl) (by kernel_rfl) (by kernel_rfl) (PQ.next (PQ.block (PQ.next (PQ.next (PQ.block (PQ.next PQ.body)))))) ?_
      refine D.done (by kernel_rfl) ?_
      refine JQ.next hK12 ?_
      refine JC.draw (by kernel_rfl) ?_
      refine D.take 0 (y_move rfl rfl) rfl rfl rfl rfl (by kernel_rfl) (by kernel_rfl) (by kernel_rfl) (PQ.block (PQ.next (PQ.next (PQ.block (PQ.next PQ.body))))) ?_
      refine D.take 1 (y_move rfl rfl) rfl rfl rfl rfl (by kernel_rfl) (by kernel_rfl) (by kernel_rfl) (PQ.block (PQ.next (PQ.next (PQ.block (PQ.next PQ.body))))) ?_
      refine D.take 2 (y_sub64 rfl rfl rfl (by omega)) rfl rfl rfl rfl (by kernel_rfl) (by kernel_rfl) (by kernel_rfl) (PQ.block (PQ.next (PQ.next (PQ.block (PQ.next PQ.body))))) ?_
      refine D.take 5 (y_move rfl rfl) rfl rfl rfl rfl (by kernel_rfl) (by kernel_rfl) (by kernel_rfl) (PQ.block (PQ.next (PQ.next (PQ.block (PQ.next PQ.body))))) ?_
      refine D.take 6 (y_sub64 rfl rfl rfl (by omega)) rfl rfl rfl rfl (by kernel_rfl) (by kernel_rfl) (by kernel_rfl) (PQ.block (PQ.next (PQ.next (PQ.block (PQ.next PQ.body))))) ?_
      refine D.take 10 (y_move rfl rfl) rfl rfl rfl rfl (by kernel_rfl) (by kernel_rfl) (by kernel_rfl) (PQ.block (PQ.next (PQ.next (PQ.block (PQ.next PQ.body))))) ?_
      refine D.take 12 (y_move rfl rfl) rfl rfl rfl rfl (by kernel_rfl) (by kernel_rfl) (by kernel_rfl) (PQ.block (PQ.next (PQ.next (PQ.block (PQ.next PQ.body))))) ?_
      refine D.take 15 (y_move rfl rfl) rfl rfl rfl rfl (by kernel_rfl) (by kernel_rfl) (by kernel_rfl) (PQ.block (PQ.next (PQ.next (PQ.block (PQ.next PQ.body))))) ?_
      refine D.take 16 (y_shr32 (n := 3) rfl rfl rfl (by decide)) rfl rfl rfl rfl (by kernel_rfl) (by kernel_rfl) (by kernel_rfl) (PQ.block (PQ.next (PQ.next (PQ.block (PQ.next PQ.body))))) ?_
      refine D.take 19 (y_move rfl rfl) rfl rfl rfl rfl (by kernel_rfl) (by kernel_rfl) (by kernel_rfl) (PQ.block (PQ.next (PQ.next (PQ.block (PQ.next PQ.body))))) ?_
      refine D.take 21 (y_move rfl rfl) rfl rfl rfl rfl (by kernel_rfl) (by kernel_rfl) (by kernel_rfl) (PQ.block (PQ.next (PQ.next (PQ.block (PQ.next PQ.body))))) ?_
      refine D.take 24 (y_move rfl rfl) rfl rfl rfl rfl (by kernel_rfl) (by kernel_rfl) (by kernel_rfl) (PQ.block (PQ.next (PQ.next (PQ.block (PQ.next PQ.body))))) ?_
      refine D.take 25 (y_shr32 (n := 10) rfl rfl rfl (by decide)) rfl rfl rfl rfl (by kernel_rfl) (by kernel_rfl) (by kernel_rfl) (PQ.block (PQ.next (PQ.next (PQ.block (PQ.next PQ.body))))) ?_
      refine D.take 3 (y_ib1 (i - 16) rfl Tryd.underlying203 Tb.sz202 rfl rfl (by omega) (by omega)) rfl rfl rfl rfl (by kernel_rfl) (by kernel_rfl) (by kernel_rfl) (PQ.block (PQ.next (PQ.next (PQ.block (PQ.next PQ.body))))) ?_
      refine D.take 4 (y_lb 0 rfl Tb.ag202 rfl rfl (wl_get m i r (i - 16) (by omega))) rfl rfl rfl rfl (by kernel_rfl) (by kernel_rfl) (by kernel_rfl) (PQ.block (PQ.next (PQ.next (PQ.block (PQ.next PQ.body))))) ?_
      refine D.take 7 (y_ib1 (i - 7) rfl Tryd.underlying203 Tb.sz202 rfl rfl (by omega) (by omega)) rfl rfl rfl rfl (by kernel_rfl) (by kernel_rfl) (by kernel_rfl) (PQ.block (PQ.next (PQ.next (PQ.block (PQ.next PQ.body))))) ?_
      refine D.take 8 (y_lb 0 rfl Tb.ag202 rfl rfl (wl_get m i r (i - 7) (by omega))) rfl rfl rfl rfl (by kernel_rfl) (by kernel_rfl) (by kernel_rfl) (PQ.block (PQ.next (PQ.next (PQ.block (PQ.next PQ.body))))) ?_
      refine D.take 9 (y_add32 rfl rfl rfl) rfl rfl rfl rfl (by kernel_rfl) (by kernel_rfl) (by kernel_rfl) (PQ.block (PQ.next (PQ.next (PQ.block (PQ.next PQ.body))))) ?_
      refine D.callv 11 (by kernel_rfl) rfl rfl rfl rfl rfl Tb.cl196 rfl (right_spec _ 7 (by decide)) ?_
      refine D.callv 13 (by kernel_rfl) rfl rfl rfl rfl rfl Tb.cl196 rfl (right_spec _ 18 (by decide)) ?_
      refine D.take 14 (y_xor32 rfl rfl rfl) rfl rfl rfl rfl (by kernel_rfl) (by kernel_rfl) (by kernel_rfl) (PQ.block (PQ.next (PQ.next (PQ.block (PQ.next PQ.body))))) ?_
      refine D.take 17 (y_xor32 rfl rfl rfl) rfl rfl rfl rfl (by kernel_rfl) (by kernel_rfl) (by kernel_rfl) (PQ.block (PQ.next (PQ.next (PQ.block (PQ.next PQ.body))))) ?_
      refine D.take 18 (y_add32 rfl rfl rfl) rfl rfl rfl rfl (by kernel_rfl) (by kernel_rfl) (by kernel_rfl) (PQ.block (PQ.next (PQ.next (PQ.block (PQ.next PQ.body))))) ?_
      refine D.callv 20 (by kernel_rfl) rfl rfl rfl rfl rfl Tb.cl196 rfl (right_spec _ 17 (by decide)) ?_
      refine D.callv 22 (by kernel_rfl) rfl rfl rfl rfl rfl Tb.cl196 rfl (right_spec _ 19 (by decide)) ?_
      refine D.take 23 (y_xor32 rfl rfl rfl) rfl rfl rfl rfl (by kernel_rfl) (by kernel_rfl) (by kernel_rfl) (PQ.block (PQ.next (PQ.next (PQ.block (PQ.next PQ.body))))) ?_
      refine D.take 26 (y_xor32 rfl rfl rfl) rfl rfl rfl rfl (by kernel_rfl) (by kernel_rfl) (by kernel_rfl) (PQ.block (PQ.next (PQ.next (PQ.block (PQ.next PQ.body))))) ?_
      refine D.take 27 (y_add32 rfl rfl rfl) rfl rfl rfl rfl (by kernel_rfl) (by kernel_rfl) (by kernel_rfl) (PQ.block (PQ.next (PQ.next (PQ.block (PQ.next PQ.body))))) ?_
      refine D.take 28 (y_ib1 i rfl Tryd.underlying203 Tb.sz202 rfl rfl rfl (by omega)) rfl rfl rfl rfl (by kernel_rfl) (by kernel_rfl) (by kernel_rfl) (PQ.block (PQ.next (PQ.next (PQ.block (PQ.next PQ.body))))) ?_
      refine D.store1c (cs' := ((wl m (i + 1) ++ r.tail).map u32)) 29 0 (by kernel_rfl) rfl (by kernel_rfl) (by kernel_rfl) rfl rfl rfl rfl rfl rfl rfl Tb.sz202 rfl (by simp [length_wl, hr]; omega) (by rw [← wl_set m i r hrn, wv, if_neg (by omega)]; rfl) ?_
      refine JQ.block_normal (JQ.next hK7 ?_)
      refine JC.region ?_
      refine J.yl (y_add64 rfl rfl rfl (by omega)) rfl rfl rfl ?_
      refine J.yl (y_move rfl rfl) rfl rfl rfl ?_
      refine J.nil ?_
      refine againK4 (i + 1, r.tail) _ ⟨by dsimp only; omega, by simp [hr]; omega⟩ (by dsimp only; omega) (okE_cons rfl okE_nil) (okE_cons rfl (okE_cons rfl okE_nil))
  · obtain rfl : i = 64 := by omega
    obtain rfl : r = [] := List.eq_nil_of_length_eq_zero (by omega)
    rw [List.append_nil]
    refine JC.exit ?_
    refine JQ.then_exit (JQ.then_exit (JQ.block_hit (JQ.next hK2 ?_)))
    refine JC.seq fun K13 hK13 => ?_
    refine JC.region ?_
    refine J.yl (y_lbW 0 rfl Tb.ag203 Tb.sz203 (by first | (simp [length_wl]; done) | rfl) rfl rfl) rfl rfl rfl ?_
    refine J.storeW 0 rfl rfl rfl rfl rfl rfl rfl Tb.sz203 (by first | (simp [length_wl]; done) | rfl) (by first | (simp [length_wl]; done) | rfl) (by first | exact u32s1 _ | exact one_vc _ | (simp; done) | (intro u hu; simp only [List.mem_cons, List.not_mem_nil, or_false] at hu; rcases hu with rfl | rfl <;> rfl)) ?_
    refine J.nil ?_
    refine JQ.next hK13 ?_
    refine JC.ret ?_
    exact ret1 rfl (r_cellA 0 rfl rfl Tb.ag203 (by rw [List.length_map, length_wl]; exact Tb.sz203)) fun w hs => Post.pure hs
theorem fill8 (x : V8) : Instr.fill (fun i => some (i * 1, 1)) (vc ⟨0, 0, 0, 0, 0, 0, 0, 0⟩).toArray [(0, u32 x.a), (1, u32 x.b), (2, u32 x.c), (3, u32 x.d), (4, u32 x.e), (5, u32 x.f), (6, u32 x.g), (7, u32 x.h)] = some (vc x).toArray :=
  fill_all (vc x) 0 [] (vc ⟨0, 0, 0, 0, 0, 0, 0, 0⟩) (by simp [vc]; exact ⟨rfl, rfl, rfl, rfl, rfl, rfl, rfl, rfl⟩) rfl rfl
theorem mix_spec (hG : ∀ w, Gl w → At w ⟨1, 0, none⟩ (kk.map u32)) (v : V8) (m : List UInt8) (hm : m.length = 64) : PureFn Tryd.prog Gl 164 [vv v, str m] F (vv (comp v m)) := by
  refine FnSpec.intro Tryd.func164 rfl Tryd.ntmps164 rfl fun X M w => ?_
  refine JC.seq fun K1 hK1 => ?_
  refine JC.region ?_
  refine J.box rfl rfl rfl rfl rfl rfl fun g2 => ?_
  refine J.alloc rfl rfl rfl rfl Tb.zz204 rfl fun g4 => ?_
  refine J.nil ?_
  refine JQ.next hK1 ?_
  refine JC.seq fun K2 hK2 => ?_
  refine JC.region ?_
  refine J.yl (y_lbW 1 rfl Tb.ag204 Tb.sz204 (by first | (simp [length_wl]; done) | rfl) rfl rfl) rfl rfl rfl ?_
  refine J.alloc rfl rfl rfl rfl Tb.zz204 rfl fun g5 => ?_
  refine J.storeW 0 rfl rfl rfl rfl rfl rfl rfl Tb.sz204 (by first | (simp [length_wl]; done) | rfl) (by first | (simp [length_wl]; done) | rfl) (by first | exact u32s1 _ | exact one_vc _ | (simp; done) | (intro u hu; simp only [List.mem_cons, List.not_mem_nil, or_false] at hu; rcases hu with rfl | rfl <;> rfl)) ?_
  refine J.nil ?_
  refine JQ.next hK2 ?_
  refine JC.seq fun K3 hK3 => ?_
  refine JC.seq fun K4 hK4 => ?_
  refine JC.region ?_
  refine J.yl (y_move rfl rfl) rfl rfl rfl ?_
  refine J.callv rfl rfl rfl rfl Tb.cl195 rfl (spread_spec m hm) ?_
  refine J.yl (y_move rfl rfl) rfl rfl rfl ?_
  refine J.nil ?_
  refine JQ.next hK4 ?_
  refine JC.block ?_
  refine JC.loopE (σ := Nat) (M := fun i => [(16, .int .i64 (i : Int))]) (kp := [(2, _), (4, _), (5, _), (15, _)]) (hkp := (okE_cons rfl (okE_cons rfl (okE_cons rfl (okE_cons rfl okE_nil))))) (Dc := fun i => [.box g5 204 (vc (rs m v i)), .box g4 204 (vc ⟨0, 0, 0, 0, 0, 0, 0, 0⟩), .box g2 204 (vc v)]) (H := fun _ => F) (Ψ := fun i => i ≤ 64) (μ := fun i => 64 - i) 0 (by omega) (okE_cons rfl okE_nil) (fun w h => h) (fun i hi K5 againK5 => ?_)
  refine JC.seq fun K6 hK6 => ?_
  refine JC.region ?_
  refine J.yl (y_lt rfl rfl rfl) rfl rfl rfl ?_
  refine J.nil ?_
  refine JQ.next hK6 ?_
  refine JC.seq fun K7 hK7 => ?_
  refine JC.condp rfl (fun h3 => ?_) (fun h3 => ?_)
  · refine JC.skip ?_
    refine JQ.next hK7 ?_
    refine JC.seq fun K8 hK8 => ?_
    refine JC.block ?_
    refine JC.seq fun K9 hK9 => ?_
    refine JC.region ?_
    refine J.yl (y_move rfl rfl) rfl rfl rfl ?_
    refine J.yl (y_ielemN i rfl Tryd.underlying203 Tb.ag202 Tb.sz202 rfl rfl rfl (by omega) (wl_getm m 64 i (by omega))) rfl rfl rfl ?_
    refine J.yl (y_assign rfl rfl) rfl rfl rfl ?_
    refine J.yl (y_assign rfl rfl) rfl rfl rfl ?_
    refine J.nil ?_
    refine JQ.next hK9 ?_
    refine JC.seq fun K10 hK10 => ?_
    refine JC.draw (by kernel_rfl) ?_
    refine D.take 0 (y_ib rfl Tryd.underlying204 Tb.sz202 rfl rfl (by decide)) rfl rfl rfl rfl (by kernel_rfl) (by kernel_rfl) (by kernel_rfl) (PQ.next (PQ.block (PQ.next (PQ.next (PQ.block (PQ.next PQ.body)))))) ?_
    refine D.take 1 (y_lb 0 rfl Tb.ag202 rfl rfl rfl) rfl rfl rfl rfl (by kernel_rfl) (by kernel_rfl) (by kernel_rfl) (PQ.next (PQ.block (PQ.next (PQ.next (PQ.block (PQ.next PQ.body)))))) ?_
    refine D.take 2 (y_ib rfl Tryd.underlying204 Tb.sz202 rfl rfl (by decide)) rfl rfl rfl rfl (by kernel_rfl) (by kernel_rfl) (by kernel_rfl) (PQ.next (PQ.block (PQ.next (PQ.next (PQ.block (PQ.next PQ.body)))))) ?_
    refine D.take 3 (y_lb 0 rfl Tb.ag202 rfl rfl rfl) rfl rfl rfl rfl (by kernel_rfl) (by kernel_rfl) (by kernel_rfl) (PQ.next (PQ.block (PQ.next (PQ.next (PQ.block (PQ.next PQ.body)))))) ?_
    refine D.take 4 (y_assign rfl rfl) rfl rfl rfl rfl (by kernel_rfl) (by kernel_rfl) (by kernel_rfl) (PQ.next (PQ.block (PQ.next (PQ.next (PQ.block (PQ.next PQ.body)))))) ?_
    refine D.take 5 (y_assign rfl rfl) rfl rfl rfl rfl (by kernel_rfl) (by kernel_rfl) (by kernel_rfl) (PQ.next (PQ.block (PQ.next (PQ.next (PQ.block (PQ.next PQ.body)))))) ?_
    refine D.done (by kernel_rfl) ?_
    refine JQ.next hK10 ?_
    refine JC.seq fun K11 hK11 => ?_
    refine JC.draw (by kernel_rfl) ?_
    refine D.take 0 (y_ib rfl Tryd.underlying204 Tb.sz202 rfl rfl (by decide)) rfl rfl rfl rfl (by kernel_rfl) (by kernel_rfl) (by kernel_rfl) (PQ.next (PQ.block (PQ.next (PQ.next (PQ.block (PQ.next PQ.body)))))) ?_
    refine D.take 1 (y_lb 0 rfl Tb.ag202 rfl rfl rfl) rfl rfl rfl rfl (by kernel_rfl) (by kernel_rfl) (by kernel_rfl) (PQ.next (PQ.block (PQ.next (PQ.next (PQ.block (PQ.next PQ.body)))))) ?_
    refine D.take 2 (y_move rfl rfl) rfl rfl rfl rfl (by kernel_rfl) (by kernel_rfl) (by kernel_rfl) (PQ.next (PQ.block (PQ.next (PQ.next (PQ.block (PQ.next PQ.body)))))) ?_
    refine D.take 4 (y_move rfl rfl) rfl rfl rfl rfl (by kernel_rfl) (by kernel_rfl) (by kernel_rfl) (PQ.next (PQ.block (PQ.next (PQ.next (PQ.block (PQ.next PQ.body)))))) ?_
    refine D.take 7 (y_move rfl rfl) rfl rfl rfl rfl (by kernel_rfl) (by kernel_rfl) (by kernel_rfl) (PQ.next (PQ.block (PQ.next (PQ.next (PQ.block (PQ.next PQ.body)))))) ?_
    refine D.take 11 (y_move rfl rfl) rfl rfl rfl rfl (by kernel_rfl) (by kernel_rfl) (by kernel_rfl) (PQ.next (PQ.block (PQ.next (PQ.next (PQ.block (PQ.next PQ.body)))))) ?_
    refine D.take 12 (y_ib rfl Tryd.underlying204 Tb.sz202 rfl rfl (by decide)) rfl rfl rfl rfl (by kernel_rfl) (by kernel_rfl) (by kernel_rfl) (PQ.next (PQ.block (PQ.next (PQ.next (PQ.block (PQ.next PQ.body)))))) ?_
    refine D.take 13 (y_lb 0 rfl Tb.ag202 rfl rfl rfl) rfl rfl rfl rfl (by kernel_rfl) (by kernel_rfl) (by kernel_rfl) (PQ.next (PQ.block (PQ.next (PQ.next (PQ.block (PQ.next PQ.body)))))) ?_
    refine D.take 14 (y_and32 rfl rfl rfl) rfl rfl rfl rfl (by kernel_rfl) (by kernel_rfl) (by kernel_rfl) (PQ.next (PQ.block (PQ.next (PQ.next (PQ.block (PQ.next PQ.body)))))) ?_
    refine D.take 15 (y_move rfl rfl) rfl rfl rfl rfl (by kernel_rfl) (by kernel_rfl) (by kernel_rfl) (PQ.next (PQ.block (PQ.next (PQ.next (PQ.block (PQ.next PQ.body)))))) ?_
    refine D.take 16 (y_not32 rfl rfl) rfl rfl rfl rfl (by kernel_rfl) (by kernel_rfl) (by kernel_rfl) (PQ.next (PQ.block (PQ.next (PQ.next (PQ.block (PQ.next PQ.body)))))) ?_
    refine D.take 17 (y_ib rfl Tryd.underlying204 Tb.sz202 rfl rfl (by decide)) rfl rfl rfl rfl (by kernel_rfl) (by kernel_rfl) (by kernel_rfl) (PQ.next (PQ.block (PQ.next (PQ.next (PQ.block (PQ.next PQ.body)))))) ?_
    refine D.take 18 (y_lb 0 rfl Tb.ag202 rfl rfl rfl) rfl rfl rfl rfl (by kernel_rfl) (by kernel_rfl) (by kernel_rfl) (PQ.next (PQ.block (PQ.next (PQ.next (PQ.block (PQ.next PQ.body)))))) ?_
    refine D.take 19 (y_and32 rfl rfl rfl) rfl rfl rfl rfl (by kernel_rfl) (by kernel_rfl) (by kernel_rfl) (PQ.next (PQ.block (PQ.next (PQ.next (PQ.block (PQ.next PQ.body)))))) ?_
    refine D.take 20 (y_xor32 rfl rfl rfl) rfl rfl rfl rfl (by kernel_rfl) (by kernel_rfl) (by kernel_rfl) (PQ.next (PQ.block (PQ.next (PQ.next (PQ.block (PQ.next PQ.body)))))) ?_
    refine D.take 22 (y_move rfl rfl) rfl rfl rfl rfl (by kernel_rfl) (by kernel_rfl) (by kernel_rfl) (PQ.next (PQ.block (PQ.next (PQ.next (PQ.block (PQ.next PQ.body)))))) ?_
    refine D.take 26 (y_move rfl rfl) rfl rfl rfl rfl (by kernel_rfl) (by kernel_rfl) (by kernel_rfl) (PQ.next (PQ.block (PQ.next (PQ.next (PQ.block (PQ.next PQ.body)))))) ?_
    refine D.take 23 (y_ib1 i rfl Tryd.underlying203 Tb.sz202 rfl rfl rfl (by omega)) rfl rfl rfl rfl (by kernel_rfl) (by kernel_rfl) (by kernel_rfl) (PQ.next (PQ.block (PQ.next (PQ.next (PQ.block (PQ.next PQ.body)))))) ?_
    refine D.take 24 (y_load1 rfl Tb.ag202 rfl (fun w hs => (hG w hs.glob).cell0 (kk_get i (by omega)))) rfl rfl rfl rfl (by kernel_rfl) (by kernel_rfl) (by kernel_rfl) (PQ.next (PQ.block (PQ.next (PQ.next (PQ.block (PQ.next PQ.body)))))) ?_
    refine D.callv 3 (by kernel_rfl) rfl rfl rfl rfl rfl Tb.cl196 rfl (right_spec _ 6 (by decide)) ?_
    refine D.callv 5 (by kernel_rfl) rfl rfl rfl rfl rfl Tb.cl196 rfl (right_spec _ 11 (by decide)) ?_
    refine D.take 6 (y_xor32 rfl rfl rfl) rfl rfl rfl rfl (by kernel_rfl) (by kernel_rfl) (by kernel_rfl) (PQ.next (PQ.block (PQ.next (PQ.next (PQ.block (PQ.next PQ.body)))))) ?_
    refine D.callv 8 (by kernel_rfl) rfl rfl rfl rfl rfl Tb.cl196 rfl (right_spec _ 25 (by decide)) ?_
    refine D.take 9 (y_xor32 rfl rfl rfl) rfl rfl rfl rfl (by kernel_rfl) (by kernel_rfl) (by kernel_rfl) (PQ.next (PQ.block (PQ.next (PQ.next (PQ.block (PQ.next PQ.body)))))) ?_
    refine D.take 10 (y_add32 rfl rfl rfl) rfl rfl rfl rfl (by kernel_rfl) (by kernel_rfl) (by kernel_rfl) (PQ.next (PQ.block (PQ.next (PQ.next (PQ.block (PQ.next PQ.body)))))) ?_
    refine D.take 21 (y_add32 rfl rfl rfl) rfl rfl rfl rfl (by kernel_rfl) (by kernel_rfl) (by kernel_rfl) (PQ.next (PQ.block (PQ.next (PQ.next (PQ.block (PQ.next PQ.body)))))) ?_
    refine D.take 25 (y_add32 rfl rfl rfl) rfl rfl rfl rfl (by kernel_rfl) (by kernel_rfl) (by kernel_rfl) (PQ.next (PQ.block (PQ.next (PQ.next (PQ.block (PQ.next PQ.body)))))) ?_
    refine D.take 27 (y_add32 rfl rfl rfl) rfl rfl rfl rfl (by kernel_rfl) (by kernel_rfl) (by kernel_rfl) (PQ.next (PQ.block (PQ.next (PQ.next (PQ.block (PQ.next PQ.body)))))) ?_
    refine D.take 28 (y_assign rfl rfl) rfl rfl rfl rfl (by kernel_rfl) (by kernel_rfl) (by kernel_rfl) (PQ.next (PQ.block (PQ.next (PQ.next (PQ.block (PQ.next PQ.body)))))) ?_
    refine D.done (by kernel_rfl) ?_
    refine JQ.next hK11 ?_
    refine JC.seq fun K12 hK12 => ?_
    refine JC.draw (by kernel_rfl) ?_
    refine D.take 0 (y_move rfl rfl) rfl rfl rfl rfl (by kernel_rfl) (by kernel_rfl) (by kernel_rfl) (PQ.next (PQ.block (PQ.next (PQ.next (PQ.block (PQ.next PQ.body)))))) ?_
    refine D.take 2 (y_move rfl rfl) rfl rfl rfl rfl (by kernel_rfl) (by kernel_rfl) (by kernel_rfl) (PQ.next (PQ.block (PQ.next (PQ.next (PQ.block (PQ.next PQ.body)))))) ?_
    refine D.take 5 (y_move rfl rfl) rfl rfl rfl rfl (by kernel_rfl) (by kernel_rfl) (by kernel_rfl) (PQ.next (PQ.block (PQ.next (PQ.next (PQ.block (PQ.next PQ.body)))))) ?_
    refine D.take 8 (y_move rfl rfl) rfl rfl rfl rfl (by kernel_rfl) (by kernel_rfl) (by kernel_rfl) (PQ.next (PQ.block (PQ.next (PQ.next (PQ.block (PQ.next PQ.body)))))) ?_
    refine D.take 9 (y_ib rfl Tryd.underlying204 Tb.sz202 rfl rfl (by decide)) rfl rfl rfl rfl (by kernel_rfl) (by kernel_rfl) (by kernel_rfl) (PQ.next (PQ.block (PQ.next (PQ.next (PQ.block (PQ.next PQ.body)))))) ?_
    refine D.take 10 (y_lb 0 rfl Tb.ag202 rfl rfl rfl) rfl rfl rfl rfl (by kernel_rfl) (by kernel_rfl) (by kernel_rfl) (PQ.next (PQ.block (PQ.next (PQ.next (PQ.block (PQ.next PQ.body)))))) ?_
    refine D.take 11 (y_and32 rfl rfl rfl) rfl rfl rfl rfl (by kernel_rfl) (by kernel_rfl) (by kernel_rfl) (PQ.next (PQ.block (PQ.next (PQ.next (PQ.block (PQ.next PQ.body)))))) ?_
    refine D.take 12 (y_move rfl rfl) rfl rfl rfl rfl (by kernel_rfl) (by kernel_rfl) (by kernel_rfl) (PQ.next (PQ.block (PQ.next (PQ.next (PQ.block (PQ.next PQ.body)))))) ?_
    refine D.take 13 (y_ib rfl Tryd.underlying204 Tb.sz202 rfl rfl (by decide)) rfl rfl rfl rfl (by kernel_rfl) (by kernel_rfl) (by kernel_rfl) (PQ.next (PQ.block (PQ.next (PQ.next (PQ.block (PQ.next PQ.body)))))) ?_
    refine D.take 14 (y_lb 0 rfl Tb.ag202 rfl rfl rfl) rfl rfl rfl rfl (by kernel_rfl) (by kernel_rfl) (by kernel_rfl) (PQ.next (PQ.block (PQ.next (PQ.next (PQ.block (PQ.next PQ.body)))))) ?_
    refine D.take 15 (y_and32 rfl rfl rfl) rfl rfl rfl rfl (by kernel_rfl) (by kernel_rfl) (by kernel_rfl) (PQ.next (PQ.block (PQ.next (PQ.next (PQ.block (PQ.next PQ.body)))))) ?_
    refine D.take 16 (y_xor32 rfl rfl rfl) rfl rfl rfl rfl (by kernel_rfl) (by kernel_rfl) (by kernel_rfl) (PQ.next (PQ.block (PQ.next (PQ.next (PQ.block (PQ.next PQ.body)))))) ?_
    refine D.take 17 (y_ib rfl Tryd.underlying204 Tb.sz202 rfl rfl (by decide)) rfl rfl rfl rfl (by kernel_rfl) (by kernel_rfl) (by kernel_rfl) (PQ.next (PQ.block (PQ.next (PQ.next (PQ.block (PQ.next PQ.body)))))) ?_
    refine D.take 18 (y_lb 0 rfl Tb.ag202 rfl rfl rfl) rfl rfl rfl rfl (by kernel_rfl) (by kernel_rfl) (by kernel_rfl) (PQ.next (PQ.block (PQ.next (PQ.next (PQ.block (PQ.next PQ.body)))))) ?_
    refine D.take 19 (y_ib rfl Tryd.underlying204 Tb.sz202 rfl rfl (by decide)) rfl rfl rfl rfl (by kernel_rfl) (by kernel_rfl) (by kernel_rfl) (PQ.next (PQ.block (PQ.next (PQ.next (PQ.block (PQ.next PQ.body)))))) ?_
    refine D.take 20 (y_lb 0 rfl Tb.ag202 rfl rfl rfl) rfl rfl rfl rfl (by kernel_rfl) (by kernel_rfl) (by kernel_rfl) (PQ.next (PQ.block (PQ.next (PQ.next (PQ.block (PQ.next PQ.body)))))) ?_
    refine D.take 21 (y_and32 rfl rfl rfl) rfl rfl rfl rfl (by kernel_rfl) (by kernel_rfl) (by kernel_rfl) (PQ.next (PQ.block (PQ.next (PQ.next (PQ.block (PQ.next PQ.body)))))) ?_
    refine D.take 22 (y_xor32 rfl rfl rfl) rfl rfl rfl rfl (by kernel_rfl) (by kernel_rfl) (by kernel_rfl) (PQ.next (PQ.block (PQ.next (PQ.next (PQ.block (PQ.next PQ.body)))))) ?_
    refine D.callv 1 (by kernel_rfl) rfl rfl rfl rfl rfl Tb.cl196 rfl (right_spec _ 2 (by decide)) ?_
    refine D.callv 3 (by kernel_rfl) rfl rfl rfl rfl rfl Tb.cl196 rfl (right_spec _ 13 (by decide)) ?_
    refine D.take 4 (y_xor32 rfl rfl rfl) rfl rfl rfl rfl (by kernel_rfl) (by kernel_rfl) (by kernel_rfl) (PQ.next (PQ.block (PQ.next (PQ.next (PQ.block (PQ.next PQ.body)))))) ?_
    refine D.callv 6 (by kernel_rfl) rfl rfl rfl rfl rfl Tb.cl196 rfl (right_spec _ 22 (by decide)) ?_
    refine D.take 7 (y_xor32 rfl rfl rfl) rfl rfl rfl rfl (by kernel_rfl) (by kernel_rfl) (by kernel_rfl) (PQ.next (PQ.block (PQ.next (PQ.next (PQ.block (PQ.next PQ.body)))))) ?_
    refine D.take 23 (y_add32 rfl rfl rfl) rfl rfl rfl rfl (by kernel_rfl) (by kernel_rfl) (by kernel_rfl) (PQ.next (PQ.block (PQ.next (PQ.next (PQ.block (PQ.next PQ.body)))))) ?_
    refine D.take 24 (y_assign rfl rfl) rfl rfl rfl rfl (by kernel_rfl) (by kernel_rfl) (by kernel_rfl) (PQ.next (PQ.block (PQ.next (PQ.next (PQ.block (PQ.next PQ.body)))))) ?_
    refine D.done (by kernel_rfl) ?_
    refine JQ.next hK12 ?_
    refine JC.region ?_
    refine J.yl (y_move rfl rfl) rfl rfl rfl ?_
    refine J.yl (y_move rfl rfl) rfl rfl rfl ?_
    refine J.yl (y_add32 rfl rfl rfl) rfl rfl rfl ?_
    refine J.yl (y_move rfl rfl) rfl rfl rfl ?_
    refine J.yl (y_ib rfl Tryd.underlying204 Tb.sz202 rfl rfl (by decide)) rfl rfl rfl ?_
    refine J.yl (y_lb 0 rfl Tb.ag202 rfl rfl rfl) rfl rfl rfl ?_
    refine J.yl (y_ib rfl Tryd.underlying204 Tb.sz202 rfl rfl (by decide)) rfl rfl rfl ?_
    refine J.yl (y_lb 0 rfl Tb.ag202 rfl rfl rfl) rfl rfl rfl ?_
    refine J.yl (y_ib rfl Tryd.underlying204 Tb.sz202 rfl rfl (by decide)) rfl rfl rfl ?_
    refine J.yl (y_lb 0 rfl Tb.ag202 rfl rfl rfl) rfl rfl rfl ?_
    refine J.yl (y_move rfl rfl) rfl rfl rfl ?_
    refine J.yl (y_add32 rfl rfl rfl) rfl rfl rfl ?_
    refine J.yl (y_move rfl rfl) rfl rfl rfl ?_
    refine J.yl (y_ib rfl Tryd.underlying204 Tb.sz202 rfl rfl (by decide)) rfl rfl rfl ?_
    refine J.yl (y_lb 0 rfl Tb.ag202 rfl rfl rfl) rfl rfl rfl ?_
    refine J.yl (y_ib rfl Tryd.underlying204 Tb.sz202 rfl rfl (by decide)) rfl rfl rfl ?_
    refine J.yl (y_lb 0 rfl Tb.ag202 rfl rfl rfl) rfl rfl rfl ?_
    refine J.yl (y_buildA (cs := vc (rs m v (i + 1))) rfl Tryd.underlying204 Tb.zz204 Tb.sz202 rfl (fill8 (rs m v (i + 1)))) rfl rfl rfl ?_
    refine J.storeW 0 rfl rfl rfl rfl rfl rfl rfl Tb.sz204 (by first | (simp [length_wl]; done) | rfl) (by first | (simp [length_wl]; done) | rfl) (by first | exact u32s1 _ | exact one_vc _ | (simp; done) | (intro u hu; simp only [List.mem_cons, List.not_mem_nil, or_false] at hu; rcases hu with rfl | rfl <;> rfl)) ?_
    refine J.nil ?_
    refine JQ.block_normal (JQ.next hK8 ?_)
    refine JC.region ?_
    refine J.yl (y_add64 rfl rfl rfl (by omega)) rfl rfl rfl ?_
    refine J.yl (y_move rfl rfl) rfl rfl rfl ?_
    refine J.nil ?_
    refine againK5 (i + 1) _ (by omega) (by omega) (okE_cons rfl okE_nil) (okE_cons rfl (okE_cons rfl (okE_cons rfl (okE_cons rfl okE_nil))))
  · obtain rfl : i = 64 := by omega
    refine JC.exit ?_
    refine JQ.then_exit (JQ.then_exit (JQ.block_hit (JQ.next hK3 ?_)))
    refine JC.seq fun K13 hK13 => ?_
    refine JC.seq fun K14 hK14 => ?_
    refine JC.region ?_
    refine J.yl (y_move rfl rfl) rfl rfl rfl ?_
    refine J.nil ?_
    refine JQ.next hK14 ?_
    refine JC.block ?_
    refine JC.loopE (σ := Nat) (M := fun i => [(95, .int .i64 (i : Int))]) (kp := [(2, _), (4, _), (5, _)]) (hkp := (okE_cons rfl (okE_cons rfl (okE_cons rfl okE_nil)))) (Dc := fun i => [.box g5 204 ((mixl (rs m v 64) v i).map u32), .box g4 204 (vc ⟨0, 0, 0, 0, 0, 0, 0, 0⟩), .box g2 204 (vc v)]) (H := fun _ => F) (Ψ := fun i => i ≤ 8) (μ := fun i => 8 - i) 0 (by omega) (okE_cons rfl okE_nil) (fun w h => h) (fun i hi K15 againK15 => ?_)
    refine JC.seq fun K16 hK16 => ?_
    refine JC.region ?_
    refine J.yl (y_lt rfl rfl rfl) rfl rfl rfl ?_
    refine J.nil ?_
    refine JQ.next hK16 ?_
    refine JC.seq fun K17 hK17 => ?_
    refine JC.condp rfl (fun h3 => ?_) (fun h3 => ?_)
    · refine JC.skip ?_
      refine JQ.next hK17 ?_
      refine JC.seq fun K18 hK18 => ?_
      refine JC.block ?_
      refine JC.seq fun K19 hK19 => ?_
      refine JC.region ?_
      refine J.yl (y_move rfl rfl) rfl rfl rfl ?_
      refine J.yl (y_assign rfl rfl) rfl rfl rfl ?_
      refine J.nil ?_
      refine JQ.next hK19 ?_
      refine JC.draw (by kernel_rfl) ?_
      refine D.take 0 (y_move rfl rfl) rfl rfl rfl rfl (by kernel_rfl) (by kernel_rfl) (by kernel_rfl) (PQ.block (PQ.next (PQ.next (PQ.block (PQ.next PQ.body))))) ?_
      refine D.take 3 (y_move rfl rfl) rfl rfl rfl rfl (by kernel_rfl) (by kernel_rfl) (by kernel_rfl) (PQ.block (PQ.next (PQ.next (PQ.block (PQ.next PQ.body))))) ?_
      refine D.take 1 (y_ib1 i rfl Tryd.underlying204 Tb.sz202 rfl rfl rfl (by omega)) rfl rfl rfl rfl (by kernel_rfl) (by kernel_rfl) (by kernel_rfl) (PQ.block (PQ.next (PQ.next (PQ.block (PQ.next PQ.body))))) ?_
      refine D.take 2 (y_lb 0 rfl Tb.ag202 rfl rfl (mixl_get _ _ i (by omega))) rfl rfl rfl rfl (by kernel_rfl) (by kernel_rfl) (by kernel_rfl) (PQ.block (PQ.next (PQ.next (PQ.block (PQ.next PQ.body))))) ?_
      refine D.take 4 (y_ib1 i rfl Tryd.underlying204 Tb.sz202 rfl rfl rfl (by omega)) rfl rfl rfl rfl (by kernel_rfl) (by kernel_rfl) (by kernel_rfl) (PQ.block (PQ.next (PQ.next (PQ.block (PQ.next PQ.body))))) ?_
      refine D.take 5 (y_lb 2 rfl Tb.ag202 rfl rfl (l_get _ i (by omega))) rfl rfl rfl rfl (by kernel_rfl) (by kernel_rfl) (by kernel_rfl) (PQ.block (PQ.next (PQ.next (PQ.block (PQ.next PQ.body))))) ?_
      refine D.take 6 (y_add32 rfl rfl rfl) rfl rfl rfl rfl (by kernel_rfl) (by kernel_rfl) (by kernel_rfl) (PQ.block (PQ.next (PQ.next (PQ.block (PQ.next PQ.body))))) ?_
      refine D.take 7 (y_ib1 i rfl Tryd.underlying204 Tb.sz202 rfl rfl rfl (by omega)) rfl rfl rfl rfl (by kernel_rfl) (by kernel_rfl) (by kernel_rfl) (PQ.block (PQ.next (PQ.next (PQ.block (PQ.next PQ.body))))) ?_
      refine D.store1c (cs' := (mixl (rs m v 64) v (i + 1)).map u32) 8 0 (by kernel_rfl) rfl (by kernel_rfl) (by kernel_rfl) rfl rfl rfl rfl rfl rfl rfl Tb.sz202 rfl (by rw [List.length_map, mixl_len _ _ _ (by omega)]; omega) (mixl_set _ _ i (by omega)) ?_
      refine JQ.block_normal (JQ.next hK18 ?_)
      refine JC.region ?_
      refine J.yl (y_add64 rfl rfl rfl (by omega)) rfl rfl rfl ?_
      refine J.yl (y_move rfl rfl) rfl rfl rfl ?_
      refine J.nil ?_
      refine againK15 (i + 1) _ (by omega) (by omega) (okE_cons rfl okE_nil) (okE_cons rfl (okE_cons rfl (okE_cons rfl okE_nil)))
    · obtain rfl : i = 8 := by omega
      refine JC.exit ?_
      refine JQ.then_exit (JQ.then_exit (JQ.block_hit (JQ.next hK13 ?_)))
      refine JC.seq fun K20 hK20 => ?_
      refine JC.region ?_
      refine J.yl (y_lbW 0 rfl Tb.ag204 Tb.sz204 (by first | (simp [length_wl]; done) | rfl) rfl rfl) rfl rfl rfl ?_
      refine J.storeW 1 rfl rfl rfl rfl rfl rfl rfl Tb.sz204 (by first | (simp [length_wl]; done) | rfl) (by first | (simp [length_wl]; done) | rfl) (by first | exact u32s1 _ | exact one_vc _ | (simp; done) | (intro u hu; simp only [List.mem_cons, List.not_mem_nil, or_false] at hu; rcases hu with rfl | rfl <;> rfl)) ?_
      refine J.nil ?_
      refine JQ.next hK20 ?_
      refine JC.ret ?_
      exact ret1 rfl (r_cellA (cs := vc (comp v m)) 1 rfl rfl Tb.ag204 Tb.sz204) fun w hs => Post.pure hs
end Go.Proofs.YtjkfeonbioccmaaDoor
namespace Go.Proofs.YtjkfeonbioccmaaDoor
open Go Go.Sx Go.RowKit
set_option linter.unusedVariables false
set_option linter.unusedSimpArgs false
set_option maxRecDepth 100000
set_option maxHeartbeats 4000000
variable {Gl F : World → Prop}

theorem sum_spec (hG : ∀ w, Gl w → glS 0 1 w) (s : List UInt8) (hl : s.length ≤ 1000000000) : PureFn Tryd.prog Gl 113 [str s] F (hv (sha s)) := by
  have h64 := padded_64 s
  have hlp := length_padded s
  have hpn : padN s.length < 64 := by unfold padN; omega
  refine FnSpec.intro Tryd.func113 rfl Tryd.ntmps113 rfl fun X M w => ?_
  refine JC.seq fun K1 hK1 => ?_
  refine JC.region ?_
  refine J.alloc rfl rfl rfl rfl Tb.zz30 rfl fun g2 => ?_
  refine J.nil ?_
  refine JQ.next hK1 ?_
  refine JC.seq fun K2 hK2 => ?_
  refine JC.region ?_
  refine J.yl (y_loadA (vs := vc v0) rfl Tb.ag204 Tb.sz204 rfl (fun w hs => (hG w hs.glob).1)) rfl rfl rfl ?_
  refine J.alloc rfl rfl rfl rfl Tb.zz204 rfl fun g3 => ?_
  refine J.storeW 0 rfl rfl rfl rfl rfl rfl rfl Tb.sz204 (by first | (simp [length_wl]; done) | rfl) (by first | (simp [length_wl]; done) | rfl) (by first | exact u32s1 _ | exact one_vc _ | (simp; done) | (intro u hu; simp only [List.mem_cons, List.not_mem_nil, or_false] at hu; rcases hu with rfl | rfl <;> rfl)) ?_
  refine J.nil ?_
  refine JQ.next hK2 ?_
  refine JC.seq fun K3 hK3 => ?_
  refine JC.seq fun K4 hK4 => ?_
  refine JC.region ?_
  refine J.yl (y_move rfl rfl) rfl rfl rfl ?_
  refine J.callv rfl rfl rfl rfl Tb.cl163 rfl (filled_spec s hl) ?_
  refine J.yl (y_assign rfl rfl) rfl rfl rfl ?_
  refine J.nil ?_
  refine JQ.next hK4 ?_
  refine JC.block ?_
  refine JC.loopE (σ := V8 × List UInt8) (M := fun s => [(4, str s.2)]) (kp := [(2, _), (3, _)]) (hkp := (okE_cons rfl (okE_cons rfl okE_nil))) (Dc := fun s => [.box g3 204 (vc s.1), .box g2 30 (hc H.zero)]) (H := fun _ => F) (Ψ := fun q => q.2.length % 64 = 0 ∧ q.2.length ≤ 1000000200 ∧ bls (q.2.length / 64) q.1 q.2 = bls ((padded s).length / 64) v0 (padded s)) (μ := fun s => s.2.length) (v0, padded s) ⟨h64, by dsimp only; omega, rfl⟩ (okE_cons rfl okE_nil) (fun w h => h) (fun sK5 hK5 K5 againK5 => ?_)
  obtain ⟨v, t⟩ := sK5
  dsimp only at hK5 againK5 ⊢
  obtain ⟨h1, h2, h3⟩ := hK5
  refine JC.seq fun K6 hK6 => ?_
  refine JC.seq fun K7 hK7 => ?_
  refine JC.region ?_
  refine J.yl (y_move rfl rfl) rfl rfl rfl ?_
  refine J.yl (y_sne (b := []) rfl rfl rfl) rfl rfl rfl ?_
  refine J.nil ?_
  refine JQ.next hK7 ?_
  refine JC.condn rfl (fun h4 => ?_) (fun h4 => ?_)
  · have h5 : 64 ≤ t.length := by
      have : t.length ≠ 0 := by simpa using h4
      omega
    refine JC.skip ?_
    refine JQ.next hK6 ?_
    refine JC.seq fun K8 hK8 => ?_
    refine JC.block ?_
    refine JC.draw (by kernel_rfl) ?_
    refine D.take 0 (y_lbW 0 rfl Tb.ag204 Tb.sz204 (by first | (simp [length_wl]; done) | rfl) rfl rfl) rfl rfl rfl rfl (by kernel_rfl) (by kernel_rfl) (by kernel_rfl) (PQ.block (PQ.next (PQ.next (PQ.block (PQ.next PQ.body))))) ?_
    refine D.take 1 (y_move rfl rfl) rfl rfl rfl rfl (by kernel_rfl) (by kernel_rfl) (by kernel_rfl) (PQ.block (PQ.next (PQ.next (PQ.block (PQ.next PQ.body))))) ?_
    refine D.take 2 (y_stoN 64 rfl Tryd.underlying9 rfl rfl rfl h5) rfl rfl rfl rfl (by kernel_rfl) (by kernel_rfl) (by kernel_rfl) (PQ.block (PQ.next (PQ.next (PQ.block (PQ.next PQ.body))))) ?_
    refine D.callv 3 (by kernel_rfl) rfl rfl rfl rfl rfl Tb.cl164 rfl (mix_spec (fun w h => (hG w h).2) _ _ (by simp; omega)) ?_
    refine D.storeW 4 0 (by kernel_rfl) rfl (by kernel_rfl) (by kernel_rfl) rfl rfl rfl rfl rfl rfl rfl Tb.sz204  (by first | (simp [length_wl]; done) | rfl) (by first | (simp [length_wl]; done) | rfl) (by first | exact u32s1 _ | exact one_vc _ | (simp; done) | (intro u hu; simp only [List.mem_cons, List.not_mem_nil, or_false] at hu; rcases hu with rfl | rfl <;> rfl)) ?_
    refine JQ.block_normal (JQ.next hK8 ?_)
    refine JC.region ?_
    refine J.yl (y_move rfl rfl) rfl rfl rfl ?_
    refine J.yl (y_sfromN 64 rfl Tryd.underlying9 rfl rfl rfl h5) rfl rfl rfl ?_
    refine J.yl (y_assign rfl rfl) rfl rfl rfl ?_
    refine J.nil ?_
    refine againK5 (comp v (t.take 64), t.drop 64) _ ⟨by simp; omega, by simp; omega, by rw [← bls_step v t h5]; exact h3⟩ (by simp; omega) (okE_cons rfl okE_nil) (okE_cons rfl (okE_cons rfl okE_nil))
  · have h5 : t = [] := by simpa using h4
    subst h5
    have h6 : v = bls ((padded s).length / 64) v0 (padded s) := h3
    subst h6
    refine JC.exit ?_
    refine JQ.then_exit (JQ.then_exit (JQ.block_hit (JQ.next hK3 ?_)))
    refine JC.seq fun K10 hK10 => ?_
    refine JC.region ?_
    refine J.alloc rfl rfl rfl rfl Tb.zz30 rfl fun g5 => ?_
    refine J.nil ?_
    refine JQ.next hK10 ?_
    refine JC.seq fun K11 hK11 => ?_
    refine JC.seq fun K12 hK12 => ?_
    refine JC.region ?_
    refine J.yl (y_lbW 1 rfl Tb.ag204 Tb.sz204 (by first | (simp [length_wl]; done) | rfl) rfl rfl) rfl rfl rfl ?_
    refine J.yl (y_move rfl rfl) rfl rfl rfl ?_
    refine J.nil ?_
    refine JQ.next hK12 ?_
    refine JC.block ?_
    generalize hv' : bls ((padded s).length / 64) v0 (padded s) = v
    refine JC.loopE (σ := Nat) (M := fun i => [(20, .int .i64 (i : Int))]) (kp := [(2, _), (3, _), (5, _), (19, _)]) (hkp := (okE_cons rfl (okE_cons rfl (okE_cons rfl (okE_cons rfl okE_nil))))) (Dc := fun i => [.box g5 30 (((out v).take (4 * i) ++ List.replicate (32 - 4 * i) 0).map u8), .box g3 204 (vc v), .box g2 30 (hc H.zero)]) (H := fun _ => F) (Ψ := fun i => i ≤ 8) (μ := fun i => 8 - i) 0 (by omega) (okE_cons rfl okE_nil) (fun w h => h) (fun i hi K13 againK13 => ?_)
    refine JC.seq fun K14 hK14 => ?_
    refine JC.region ?_
    refine J.yl (y_lt rfl rfl rfl) rfl rfl rfl ?_
    refine J.nil ?_
    refine JQ.next hK14 ?_
    refine JC.seq fun K15 hK15 => ?_
    refine JC.condp rfl (fun h7 => ?_) (fun h7 => ?_)
    · refine JC.skip ?_
      refine JQ.next hK15 ?_
      refine JC.seq fun K16 hK16 => ?_
      refine JC.block ?_
      refine JC.seq fun K17 hK17 => ?_
      refine JC.region ?_
      refine J.yl (y_move rfl rfl) rfl rfl rfl ?_
      refine J.yl (y_ielemN i rfl Tryd.underlying204 Tb.ag202 Tb.sz202 rfl rfl rfl (by omega) (l_get v i (by omega))) rfl rfl rfl ?_
      refine J.yl (y_assign rfl rfl) rfl rfl rfl ?_
      refine J.yl (y_assign rfl rfl) rfl rfl rfl ?_
      refine J.nil ?_
      refine JQ.next hK17 ?_
      refine JC.drawM [false, false, false] (by kernel_rfl) ?_
      refine D.take 0 (y_move rfl rfl) rfl rfl rfl rfl (by kernel_rfl) (by kernel_rfl) (by kernel_rfl) (PQ.block (PQ.next (PQ.next (PQ.block (PQ.next PQ.body))))) ?_
      refine D.take 1 (y_mul64 rfl rfl rfl (by omega)) rfl rfl rfl rfl (by kernel_rfl) (by kernel_rfl) (by kernel_rfl) (PQ.block (PQ.next (PQ.next (PQ.block (PQ.next PQ.body))))) ?_
      refine D.take 3 (y_move rfl rfl) rfl rfl rfl rfl (by kernel_rfl) (by kernel_rfl) (by kernel_rfl) (PQ.block (PQ.next (PQ.next (PQ.block (PQ.next PQ.body))))) ?_
      refine D.take 4 (y_32to64 rfl (isS Tryd.underlying202) Tryd.underlying212 rfl) rfl rfl rfl rfl (by kernel_rfl) (by kernel_rfl) (by kernel_rfl) (PQ.block (PQ.next (PQ.next (PQ.block (PQ.next PQ.body))))) ?_
      refine D.take 2 (y_cutarr1 (4 * i) rfl Tryd.underlying30 Tb.sz5 rfl rfl (by omega) (by omega)) rfl rfl rfl rfl (by kernel_rfl) (by kernel_rfl) (by kernel_rfl) (PQ.block (PQ.next (PQ.next (PQ.block (PQ.next PQ.body))))) ?_
      refine D.ofJ 5 (by kernel_rfl) rfl fun KhK19 hK19 => ?_
      refine J.callv rfl rfl rfl rfl Tb.cl165 rfl (put_spec _ 4 (by omega)) ?_
      refine J.nil ?_
      refine hK19 _ _ _ (fun w hs => hs.mask [false, false, false]) ?_
      refine D.ofJ 6 (by kernel_rfl) rfl fun KhK21 hK21 => ?_
      refine J.copyS (m := 4) (cs' := ((out v).take (4 * (i + 1)) ++ List.replicate (32 - 4 * (i + 1)) 0).map u8) 0 rfl rfl rfl rfl rfl rfl Tryd.underlying205 Tb.sz5 rfl (by rw [length_putB]; omega) (by simp [length_out]; omega) (out_step v i (by omega)) ?_
      refine J.nil ?_
      refine hK21 _ _ _ (fun w hs => hs.mask [false, false, false]) ?_
      refine D.done (by kernel_rfl) ?_
      refine JQ.block_normal (JQ.next hK16 ?_)
      refine JC.region ?_
      refine J.yl (y_add64 rfl rfl rfl (by omega)) rfl rfl rfl ?_
      refine J.yl (y_move rfl rfl) rfl rfl rfl ?_
      refine J.nil ?_
      refine againK13 (i + 1) _ (by omega) (by omega) (okE_cons rfl okE_nil) (okE_cons rfl (okE_cons rfl (okE_cons rfl (okE_cons rfl okE_nil))))
    · obtain rfl : i = 8 := by omega
      have he : ((out v).take (4 * 8) ++ List.replicate (32 - 4 * 8) 0).map u8 = hc ⟨out v, length_out v⟩ := by
        rw [List.take_of_length_le (by rw [length_out]; decide)]; simp [hc]
      rw [he]
      have hsha : sha s = ⟨out v, length_out v⟩ := by subst hv'; rfl
      refine JC.exit ?_
      refine JQ.then_exit (JQ.then_exit (JQ.block_hit (JQ.next hK11 ?_)))
      refine JC.seq fun K22 hK22 => ?_
      refine JC.region ?_
      refine J.yl (y_lbW 0 rfl Tb.ag30 Tb.sz30 (hcl _) rfl rfl) rfl rfl rfl ?_
      refine J.storeW 2 rfl rfl rfl rfl rfl rfl rfl Tb.sz30 (hcl _) (hcl _) (hc1 _) ?_
      refine J.nil ?_
      refine JQ.next hK22 ?_
      refine JC.ret ?_
      exact ret1 rfl (r_cellA 2 rfl rfl Tb.ag30 (by rw [hcl]; exact Tb.sz30)) fun w hs => by rw [hsha]; exact Post.pure hs
end Go.Proofs.YtjkfeonbioccmaaDoor
namespace Go.Proofs.YtjkfeonbioccmaaDoor
open Go Go.Sx Go.RowKit
set_option linter.unusedVariables false
set_option linter.unusedSimpArgs false
set_option maxRecDepth 100000
set_option maxHeartbeats 4000000
variable {Gl F : World → Prop}

theorem pad_spec (s : List UInt8) (hl : s.length ≤ 1000000000) : FnSpec Tryd.prog Gl 161 [str s] [] F (ι := Option Addr × Nat) (fun _ => True) (fun i => .slice i.1 (padded s).length i.2) (fun i => [.fro (.slice i.1 (padded s).length i.2) 5 (padded s).length ((padded s).map u8)]) (fun _ _ => True) := by
  have hlp := length_padded s
  have hpn : padN s.length < 64 := by unfold padN; omega
  have h64 := padded_64 s
  refine FnSpec.intro Tryd.func161 rfl Tryd.ntmps161 rfl fun X M w => ?_
  refine JC.seq fun K1 hK1 => ?_
  refine JC.region ?_
  refine J.yl (y_assign rfl rfl) rfl rfl rfl ?_
  refine J.nil ?_
  refine JQ.next hK1 ?_
  refine JC.seq fun K2 hK2 => ?_
  refine JC.region ?_
  refine J.yl (y_move rfl rfl) rfl rfl rfl ?_
  refine J.s2b rfl rfl rfl rfl Tryd.underlying9 Tryd.underlying205 Tryd.underlying5 rfl (by omega) fun Ar7 kr7 => ?_
  refine J.bs1 rfl rfl rfl rfl rfl Tryd.underlying205 Tb.zz5 Tb.sz5 rfl (by decide) rfl rfl fun g8 => ?_
  refine J.appendB 1 rfl rfl rfl rfl rfl rfl Tryd.underlying205 Tb.zz5 Tb.sz5 Tb.by5 rfl rfl rfl (fun w hs => At.box (hs.get (i := 0) rfl)) (one1 rfl) (by omega) (by decide) (show _ = (s ++ [128]).length by simp) (show _ = (s ++ [128]).map u8 by rw [List.map_append]; rfl) fun A k => ?_
  refine J.drop ?_
  refine J.yl (y_assign rfl rfl) rfl rfl rfl ?_
  refine J.nil ?_
  refine JQ.next hK2 ?_
  refine JC.seq fun K4 hK4 => ?_
  refine JC.block ?_
  refine JC.loopE (σ := Option Addr × Nat × List UInt8) (M := fun q => [(3, .slice q.1 q.2.2.length q.2.1)]) (kp := [(0, _)]) (hkp := (okE_cons rfl okE_nil)) (Dc := fun q => [.fro (.slice q.1 q.2.2.length q.2.1) 5 q.2.2.length (q.2.2.map u8)]) (H := fun _ => F) (Ψ := fun q => ∃ j, j ≤ padN s.length ∧ q.2.2 = s ++ [128] ++ List.replicate j 0) (μ := fun q => 2000000000 - q.2.2.length) (A, k, s ++ [128]) ⟨0, by omega, by simp⟩ (okE_cons rfl okE_nil) (fun w h => h) (fun sK5 hK5 K5 againK5 => ?_)
  obtain ⟨A, k, l⟩ := sK5
  dsimp only at hK5 againK5 ⊢
  obtain ⟨j, hj, hl'⟩ := hK5
  refine JC.seq fun K6 hK6 => ?_
  refine JC.seq fun K7 hK7 => ?_
  refine JC.region ?_
  refine J.yl (y_move rfl rfl) rfl rfl rfl ?_
  refine J.yl (y_len rfl Tryd.underlying205 rfl) rfl rfl rfl ?_
  refine J.yl (y_rem64 rfl rfl rfl (by omega)) rfl rfl rfl ?_
  refine J.yl (y_ne rfl rfl rfl) rfl rfl rfl ?_
  refine J.nil ?_
  refine JQ.next hK7 ?_
  have hll : l.length = s.length + 1 + j := by rw [hl']; simp; omega
  refine JC.condn rfl (fun h1 => ?_) (fun h1 => ?_)
  · refine JC.skip ?_
    refine JQ.next hK6 ?_
    refine JC.block ?_
    refine JC.region ?_
    refine J.yl (y_move rfl rfl) rfl rfl rfl ?_
    refine J.bs1 rfl rfl rfl rfl rfl Tryd.underlying205 Tb.zz5 Tb.sz5 rfl (by decide) rfl rfl fun g15 => ?_
    refine J.appendB 1 rfl rfl rfl rfl rfl rfl Tryd.underlying205 Tb.zz5 Tb.sz5 Tb.by5 rfl rfl rfl (fun w hs => At.box (hs.get (i := 0) rfl)) (one1 rfl) (by omega) (by decide) (show _ = (l ++ [0]).length by simp) (show _ = (l ++ [0]).map u8 by rw [List.map_append]; rfl) fun A k => ?_
    refine J.drop ?_
    refine J.yl (y_assign rfl rfl) rfl rfl rfl ?_
    refine J.nil ?_
    refine JQ.block_normal ?_
    have hj2 : j ≠ padN s.length := by
      rintro rfl
      apply h1
      unfold padN at hll
      omega
    refine againK5 (A, k, l ++ [0]) _ ⟨j + 1, by omega, by rw [hl', List.replicate_succ']; simp⟩ (by simp; omega) (okE_cons rfl okE_nil) (okE_cons rfl okE_nil)
  · have hj2 : j = padN s.length := by
      have h2 : (l.length : Int) % 64 = 56 := by simpa using h1
      unfold padN at hj ⊢
      omega
    subst hj2
    refine JC.exit ?_
    refine JQ.then_exit (JQ.then_exit (JQ.block_hit (JQ.next hK4 ?_)))
    refine JC.seq fun K9 hK9 => ?_
    refine JC.region ?_
    refine J.yl (y_move rfl rfl) rfl rfl rfl ?_
    refine J.yl (y_slen (ty := 0) rfl Tryd.underlying9 rfl) rfl rfl rfl ?_
    refine J.yl (y_ito64 rfl (isS Tryd.underlying3) Tryd.underlying212 rfl (by omega)) rfl rfl rfl ?_
    refine J.yl (y_mul_u64 (b := 8) rfl rfl rfl) rfl rfl rfl ?_
    refine J.yl (y_assign rfl rfl) rfl rfl rfl ?_
    refine J.nil ?_
    refine JQ.next hK9 ?_
    refine JC.seq fun K10 hK10 => ?_
    refine JC.seq fun K11 hK11 => ?_
    refine JC.region ?_
    refine J.yl (y_assign rfl rfl) rfl rfl rfl ?_
    refine J.nil ?_
    refine JQ.next hK11 ?_
    refine JC.block ?_
    refine JC.loopE (σ := Option Addr × Nat × Nat × List UInt8) (M := fun q => [(5, .int .i64 ((q.2.2.1 : Int) - 1)), (3, .slice q.1 q.2.2.2.length q.2.1)]) (kp := [(0, _), (4, _)]) (hkp := (okE_cons rfl (okE_cons rfl okE_nil))) (Dc := fun q => [.fro (.slice q.1 q.2.2.2.length q.2.1) 5 q.2.2.2.length (q.2.2.2.map u8)]) (H := fun _ => F) (Ψ := fun q => q.2.2.1 ≤ 8 ∧ q.2.2.2 ++ putB (UInt64.ofNat s.length * 8) q.2.2.1 = padded s) (μ := fun q => q.2.2.1) (A, k, 8, l) ⟨Nat.le_refl 8, by rw [hl']; rfl⟩ (okE_cons rfl (okE_cons rfl okE_nil)) (fun w h => h) (fun sK12 hK12 K12 againK12 => ?_)
    obtain ⟨A, k, i, l⟩ := sK12
    dsimp only at hK12 againK12 ⊢
    obtain ⟨hi, hl2⟩ := hK12
    refine JC.seq fun K13 hK13 => ?_
    refine JC.seq fun K14 hK14 => ?_
    refine JC.region ?_
    refine J.yl (y_move rfl rfl) rfl rfl rfl ?_
    refine J.yl (y_ge rfl rfl rfl) rfl rfl rfl ?_
    refine J.nil ?_
    refine JQ.next hK14 ?_
    have hll2 : l.length + i = (padded s).length := by rw [← hl2]; simp [length_putB]
    refine JC.condp rfl (fun h2 => ?_) (fun h2 => ?_)
    · obtain ⟨i, rfl⟩ : ∃ n, i = n + 1 := ⟨i - 1, by omega⟩
      refine JC.skip ?_
      refine JQ.next hK13 ?_
      refine JC.seq fun K15 hK15 => ?_
      refine JC.block ?_
      refine JC.region ?_
      refine J.yl (y_move rfl rfl) rfl rfl rfl ?_
      refine J.yl (y_move rfl rfl) rfl rfl rfl ?_
      refine J.yl (y_move rfl rfl) rfl rfl rfl ?_
      refine J.yl (y_mul64 rfl rfl rfl (by omega)) rfl rfl rfl ?_
      refine J.yl (y_shr_u64N (8 * i) rfl rfl rfl (by omega) (by omega)) rfl rfl rfl ?_
      refine J.yl (y_64to8 rfl (isS Tryd.underlying212) Tryd.underlying5 rfl) rfl rfl rfl ?_
      refine J.bs1 rfl rfl rfl rfl rfl Tryd.underlying205 Tb.zz5 Tb.sz5 rfl (by decide) rfl rfl fun g31 => ?_
      refine J.appendB 1 rfl rfl rfl rfl rfl rfl Tryd.underlying205 Tb.zz5 Tb.sz5 Tb.by5 rfl rfl rfl (fun w hs => At.box (hs.get (i := 0) rfl)) (one1 rfl) (by omega) (by decide) (show _ = (l ++ [((UInt64.ofNat s.length * 8) >>> UInt64.ofNat (8 * i)).toUInt8]).length by simp) (show _ = (l ++ [((UInt64.ofNat s.length * 8) >>> UInt64.ofNat (8 * i)).toUInt8]).map u8 by rw [List.map_append]; rfl) fun A k => ?_
      refine J.drop ?_
      refine J.yl (y_assign rfl rfl) rfl rfl rfl ?_
      refine J.nil ?_
      refine JQ.block_normal (JQ.next hK15 ?_)
      refine JC.region ?_
      refine J.yl (y_move rfl rfl) rfl rfl rfl ?_
      refine J.yl (y_sub64 rfl rfl rfl (by omega)) rfl rfl rfl ?_
      refine J.yl (y_assign rfl rfl) rfl rfl rfl ?_
      refine J.nil ?_
      refine againK12 (A, k, i, l ++ [((UInt64.ofNat s.length * 8) >>> UInt64.ofNat (8 * i)).toUInt8]) _ ⟨by dsimp only; omega, by rw [← hl2, List.append_assoc]; rfl⟩ (by dsimp only; omega) (okE_cons (slotI (by dsimp only; omega)) (okE_cons rfl okE_nil)) (okE_cons rfl (okE_cons rfl okE_nil))
    · obtain rfl : i = 0 := by omega
      have hl3 : l = padded s := by rw [← hl2, putB, List.append_nil]
      subst hl3
      refine JC.exit ?_
      refine JQ.then_exit (JQ.then_exit (JQ.block_hit (JQ.next hK10 ?_)))
      refine JC.seq fun K17 hK17 => ?_
      refine JC.region ?_
      refine J.yl (y_move rfl rfl) rfl rfl rfl ?_
      refine J.yl (y_assign rfl rfl) rfl rfl rfl ?_
      refine J.nil ?_
      refine JQ.next hK17 ?_
      refine JC.ret ?_
      exact ret1 rfl (r_tmp rfl) fun w hs => Post.of_st hs (A, k) trivial (List.Sublist.refl _) fun _ _ => trivial
end Go.Proofs.YtjkfeonbioccmaaDoor
namespace Go.Proofs.YtjkfeonbioccmaaDoor
open Go Go.Sx Go.RowKit
set_option linter.unusedVariables false
set_option linter.unusedSimpArgs false
set_option maxRecDepth 100000
set_option maxHeartbeats 4000000
variable {Gl F : World → Prop}

theorem rsum_spec (s : List UInt8) (hl : s.length ≤ 1000000000) : PureFn Tryd.prog Gl 111 [str s] F (hv (sha s)) := by
  have hlp := length_padded s
  have hpn : padN s.length < 64 := by unfold padN; omega
  have h64 := padded_64 s
  refine FnSpec.intro Tryd.func111 rfl Tryd.ntmps111 rfl fun X M w => ?_
  refine JC.seq fun K1 hK1 => ?_
  refine JC.region ?_
  refine J.alloc rfl rfl rfl rfl Tb.zz30 rfl fun g2 => ?_
  refine J.nil ?_
  refine JQ.next hK1 ?_
  refine JC.seq fun K2 hK2 => ?_
  refine JC.region ?_
  refine J.yl (y_buildA (cs := kk.map u32) rfl Tryd.underlying203 Tb.zz203 Tb.sz202 rfl fillK) rfl rfl rfl ?_
  refine J.alloc rfl rfl rfl rfl Tb.zz203 rfl fun g3 => ?_
  refine J.storeW 0 rfl rfl rfl rfl rfl rfl rfl Tb.sz203 (by first | (simp [length_wl]; done) | rfl) (by first | (simp [length_wl]; done) | rfl) (by first | exact u32s1 _ | exact one_vc _ | (simp; done) | (intro u hu; simp only [List.mem_cons, List.not_mem_nil, or_false] at hu; rcases hu with rfl | rfl <;> rfl)) ?_
  refine J.nil ?_
  refine JQ.next hK2 ?_
  refine JC.seq fun K3 hK3 => ?_
  refine JC.region ?_
  refine J.yl (y_buildA (cs := vc v0) rfl Tryd.underlying204 Tb.zz204 Tb.sz202 rfl (fill8 v0)) rfl rfl rfl ?_
  refine J.alloc rfl rfl rfl rfl Tb.zz204 rfl fun g4 => ?_
  refine J.storeW 0 rfl rfl rfl rfl rfl rfl rfl Tb.sz204 (by first | (simp [length_wl]; done) | rfl) (by first | (simp [length_wl]; done) | rfl) (by first | exact u32s1 _ | exact one_vc _ | (simp; done) | (intro u hu; simp only [List.mem_cons, List.not_mem_nil, or_false] at hu; rcases hu with rfl | rfl <;> rfl)) ?_
  refine J.nil ?_
  refine JQ.next hK3 ?_
  refine JC.seq fun K4 hK4 => ?_
  refine JC.region ?_
  refine J.yl (y_move rfl rfl) rfl rfl rfl ?_
  refine J.callR (Cin := []) rfl rfl rfl rfl Tb.cl161 rfl rfl (pad_spec s hl) ?_
  rintro ⟨A, kc⟩ _
  refine J.yl (y_assign rfl rfl) rfl rfl rfl ?_
  refine J.nil ?_
  refine JQ.next hK4 ?_
  refine JC.seq fun K5 hK5 => ?_
  refine JC.region ?_
  refine J.alloc rfl rfl rfl rfl Tb.zz203 rfl fun g6 => ?_
  refine J.nil ?_
  refine JQ.next hK5 ?_
  refine JC.seq fun K6 hK6 => ?_
  refine JC.seq fun K7 hK7 => ?_
  refine JC.region ?_
  refine J.yl (y_assign rfl rfl) rfl rfl rfl ?_
  refine J.nil ?_
  refine JQ.next hK7 ?_
  refine JC.block ?_
  have hne : (padded s).map u8 ≠ [] := by
    intro h
    have := congrArg List.length h
    rw [List.length_map, hlp] at this
    simp at this
  refine JC.loopE (σ := Nat × V8 × List UInt32) (M := fun q => [(7, .int .i64 ((64 * q.1 : Nat) : Int))]) (kp := [(2, _), (3, _), (4, _), (5, _), (6, _)]) (hkp := (okE_cons rfl (okE_cons rfl (okE_cons rfl (okE_cons rfl (okE_cons rfl okE_nil)))))) (Dc := fun q => [.box g6 203 (q.2.2.map u32), .fro (.slice A (padded s).length kc) 5 (padded s).length ((padded s).map u8), .box g4 204 (vc q.2.1), .box g3 203 (kk.map u32), .box g2 30 (hc H.zero)]) (H := fun _ => F) (Ψ := fun q => 64 * q.1 ≤ (padded s).length ∧ q.2.2.length = 64 ∧ bls ((padded s).length / 64 - q.1) q.2.1 ((padded s).drop (64 * q.1)) = bls ((padded s).length / 64) v0 (padded s)) (μ := fun q => (padded s).length - 64 * q.1) (0, v0, List.replicate 64 0) ⟨by dsimp only; omega, rfl, rfl⟩ (okE_cons rfl okE_nil) (fun w h => h) (fun sK8 hK8 K8 againK8 => ?_)
  obtain ⟨n, v, ws⟩ := sK8
  dsimp only at hK8 againK8 ⊢
  obtain ⟨hn, hws, hbl⟩ := hK8
  refine JC.seq fun K9 hK9 => ?_
  refine JC.seq fun K10 hK10 => ?_
  refine JC.region ?_
  refine J.yl (y_move rfl rfl) rfl rfl rfl ?_
  refine J.yl (y_move rfl rfl) rfl rfl rfl ?_
  refine J.yl (y_len rfl Tryd.underlying205 rfl) rfl rfl rfl ?_
  refine J.yl (y_lt rfl rfl rfl) rfl rfl rfl ?_
  refine J.nil ?_
  refine JQ.next hK10 ?_
  refine JC.condp rfl (fun h1 => ?_) (fun h1 => ?_)
  · have hn2 : 64 * n + 64 ≤ (padded s).length := by omega
    refine JC.skip ?_
    refine JQ.next hK9 ?_
    refine JC.seq fun K11 hK11 => ?_
    refine JC.block ?_
    refine JC.seq fun K12 hK12 => ?_
    refine JC.seq fun K13 hK13 => ?_
    refine JC.region ?_
    refine J.yl (y_assign rfl rfl) rfl rfl rfl ?_
    refine J.nil ?_
    refine JQ.next hK13 ?_
    refine JC.block ?_
    refine JC.loopE (σ := Nat × List UInt32) (M := fun q => [(8, .int .i64 (q.1 : Int))]) (kp := [(2, _), (3, _), (4, _), (5, _), (6, _), (7, _)]) (hkp := (okE_cons rfl (okE_cons rfl (okE_cons rfl (okE_cons rfl (okE_cons rfl (okE_cons rfl okE_nil))))))) (Dc := fun q => [.box g6 203 ((wl (((padded s).drop (64 * n)).take 64) q.1 ++ q.2).map u32), .fro (.slice A (padded s).length kc) 5 (padded s).length ((padded s).map u8), .box g4 204 (vc v), .box g3 203 (kk.map u32), .box g2 30 (hc H.zero)]) (H := fun _ => F) (Ψ := fun q => q.1 ≤ 16 ∧ q.2.length = 64 - q.1) (μ := fun q => 16 - q.1) (0, ws) ⟨by dsimp only; omega, hws⟩ (okE_cons rfl okE_nil) (fun w h => h) (fun sK14 hK14 K14 againK14 => ?_)
    obtain ⟨i, r⟩ := sK14
    dsimp only at hK14 againK14 ⊢
    obtain ⟨hi, hr⟩ := hK14
    refine JC.seq fun K15 hK15 => ?_
    refine JC.seq fun K16 hK16 => ?_
    refine JC.region ?_
    refine J.yl (y_move rfl rfl) rfl rfl rfl ?_
    refine J.yl (y_lt rfl rfl rfl) rfl rfl rfl ?_
    refine J.nil ?_
    refine JQ.next hK16 ?_
    refine JC.condp rfl (fun h2 => ?_) (fun h2 => ?_)
    · have hrn : r ≠ [] := by rintro rfl; simp at hr; omega
      refine JC.skip ?_
      refine JQ.next hK15 ?_
      refine JC.seq fun K17 hK17 => ?_
      refine JC.block ?_
      refine JC.seq fun K18 hK18 => ?_
      refine JC.region ?_
      refine J.yl (y_move rfl rfl) rfl rfl rfl ?_
      refine J.yl (y_move rfl rfl) rfl rfl rfl ?_
      refine J.yl (y_mul64 rfl rfl rfl (by omega)) rfl rfl rfl ?_
      refine J.yl (y_add64 rfl rfl rfl (by omega)) rfl rfl rfl ?_
      refine J.yl (y_assign rfl rfl) rfl rfl rfl ?_
      refine J.nil ?_
      refine JQ.next hK18 ?_
      refine JC.draw (by kernel_rfl) ?_
      refine D.take 0 (y_move rfl rfl) rfl rfl rfl rfl (by kernel_rfl) (by kernel_rfl) (by kernel_rfl) (PQ.block (PQ.next (PQ.next (PQ.block (PQ.next (PQ.block (PQ.next (PQ.next (PQ.block (PQ.next PQ.body)))))))))) ?_
      refine D.take 1 (y_move rfl rfl) rfl rfl rfl rfl (by kernel_rfl) (by kernel_rfl) (by kernel_rfl) (PQ.block (PQ.next (PQ.next (PQ.block (PQ.next (PQ.block (PQ.next (PQ.next (PQ.block (PQ.next PQ.body)))))))))) ?_
      refine D.take 2 (y_move rfl rfl) rfl rfl rfl rfl (by kernel_rfl) (by kernel_rfl) (by kernel_rfl) (PQ.block (PQ.next (PQ.next (PQ.block (PQ.next (PQ.block (PQ.next (PQ.next (PQ.block (PQ.next PQ.body)))))))))) ?_
      refine D.take 7 (y_move rfl rfl) rfl rfl rfl rfl (by kernel_rfl) (by kernel_rfl) (by kernel_rfl) (PQ.block (PQ.next (PQ.next (PQ.block (PQ.next (PQ.block (PQ.next (PQ.next (PQ.block (PQ.next PQ.body)))))))))) ?_
      refine D.take 8 (y_move rfl rfl) rfl rfl rfl rfl (by kernel_rfl) (by kernel_rfl) (by kernel_rfl) (PQ.block (PQ.next (PQ.next (PQ.block (PQ.next (PQ.block (PQ.next (PQ.next (PQ.block (PQ.next PQ.body)))))))))) ?_
      refine D.take 9 (y_add64 rfl rfl rfl (by omega)) rfl rfl rfl rfl (by kernel_rfl) (by kernel_rfl) (by kernel_rfl) (PQ.block (PQ.next (PQ.next (PQ.block (PQ.next (PQ.block (PQ.next (PQ.next (PQ.block (PQ.next PQ.body)))))))))) ?_
      refine D.take 15 (y_move rfl rfl) rfl rfl rfl rfl (by kernel_rfl) (by kernel_rfl) (by kernel_rfl) (PQ.block (PQ.next (PQ.next (PQ.block (PQ.next (PQ.block (PQ.next (PQ.next (PQ.block (PQ.next PQ.body)))))))))) ?_
      refine D.take 16 (y_move rfl rfl) rfl rfl rfl rfl (by kernel_rfl) (by kernel_rfl) (by kernel_rfl) (PQ.block (PQ.next (PQ.next (PQ.block (PQ.next (PQ.block (PQ.next (PQ.next (PQ.block (PQ.next PQ.body)))))))))) ?_
      refine D.take 17 (y_add64 rfl rfl rfl (by omega)) rfl rfl rfl rfl (by kernel_rfl) (by kernel_rfl) (by kernel_rfl) (PQ.block (PQ.next (PQ.next (PQ.block (PQ.next (PQ.block (PQ.next (PQ.next (PQ.block (PQ.next PQ.body)))))))))) ?_
      refine D.take 23 (y_move rfl rfl) rfl rfl rfl rfl (by kernel_rfl) (by kernel_rfl) (by kernel_rfl) (PQ.block (PQ.next (PQ.next (PQ.block (PQ.next (PQ.block (PQ.next (PQ.next (PQ.block (PQ.next PQ.body)))))))))) ?_
      refine D.take 24 (y_move rfl rfl) rfl rfl rfl rfl (by kernel_rfl) (by kernel_rfl) (by kernel_rfl) (PQ.block (PQ.next (PQ.next (PQ.block (PQ.next (PQ.block (PQ.next (PQ.next (PQ.block (PQ.next PQ.body)))))))))) ?_
      refine D.take 25 (y_add64 rfl rfl rfl (by omega)) rfl rfl rfl rfl (by kernel_rfl) (by kernel_rfl) (by kernel_rfl) (PQ.block (PQ.next (PQ.next (PQ.block (PQ.next (PQ.block (PQ.next (PQ.next (PQ.block (PQ.next PQ.body)))))))))) ?_
      refine D.take 3 (y_idxN (64 * n + 4 * i) rfl Tryd.underlying205 Tb.sz5 rfl rfl (by omega) (by omega) (fun w hs => (Sl.of_fro (hs.get (i := 1) rfl)).some_ hne)) rfl rfl rfl rfl (by kernel_rfl) (by kernel_rfl) (by kernel_rfl) (PQ.block (PQ.next (PQ.next (PQ.block (PQ.next (PQ.block (PQ.next (PQ.next (PQ.block (PQ.next PQ.body)))))))))) ?_
      refine D.take 4 (y_lsl rfl Tb.ag5 rfl (fun w hs => Sl.of_fro (hs.get (i := 1) rfl)) (get_bytes (by omega))) rfl rfl rfl rfl (by kernel_rfl) (by kernel_rfl) (by kernel_rfl) (PQ.block (PQ.next (PQ.next (PQ.block (PQ.next (PQ.block (PQ.next (PQ.next (PQ.block (PQ.next PQ.body)))))))))) ?_
      refine D.take 5 (y_8to32 rfl (isS Tryd.underlying5) Tryd.underlying202 rfl) rfl rfl rfl rfl (by kernel_rfl) (by kernel_rfl) (by kernel_rfl) (PQ.block (PQ.next (PQ.next (PQ.block (PQ.next (PQ.block (PQ.next (PQ.next (PQ.block (PQ.next PQ.body)))))))))) ?_
      refine D.take 6 (y_shl32 (n := 24) rfl rfl rfl (by decide)) rfl rfl rfl rfl (by kernel_rfl) (by kernel_rfl) (by kernel_rfl) (PQ.block (PQ.next (PQ.next (PQ.block (PQ.next (PQ.block (PQ.next (PQ.next (PQ.block (PQ.next PQ.body)))))))))) ?_
      refine D.take 10 (y_idxN (64 * n + 4 * i + 1) rfl Tryd.underlying205 Tb.sz5 rfl rfl (by omega) (by omega) (fun w hs => (Sl.of_fro (hs.get (i := 1) rfl)).some_ hne)) rfl rfl rfl rfl (by kernel_rfl) (by kernel_rfl) (by kernel_rfl) (PQ.block (PQ.next (PQ.next (PQ.block (PQ.next (PQ.block (PQ.next (PQ.next (PQ.block (PQ.next PQ.body)))))))))) ?_
      refine D.take 11 (y_lsl rfl Tb.ag5 rfl (fun w hs => Sl.of_fro (hs.get (i := 1) rfl)) (get_bytes (by omega))) rfl rfl rfl rfl (by kernel_rfl) (by kernel_rfl) (by kernel_rfl) (PQ.block (PQ.next (PQ.next (PQ.block (PQ.next (PQ.block (PQ.next (PQ.next (PQ.block (PQ.next PQ.body)))))))))) ?_
      refine D.take 12 (y_8to32 rfl (isS Tryd.underlying5) Tryd.underlying202 rfl) rfl rfl rfl rfl (by kernel_rfl) (by kernel_rfl) (by kernel_rfl) (PQ.block (PQ.next (PQ.next (PQ.block (PQ.next (PQ.block (PQ.next (PQ.next (PQ.block (PQ.next PQ.body)))))))))) ?_
      refine D.take 13 (y_shl32 (n := 16) rfl rfl rfl (by decide)) rfl rfl rfl rfl (by kernel_rfl) (by kernel_rfl) (by kernel_rfl) (PQ.block (PQ.next (PQ.next (PQ.block (PQ.next (PQ.block (PQ.next (PQ.next (PQ.block (PQ.next PQ.body)))))))))) ?_
      refine D.take 14 (y_add32 rfl rfl rfl) rfl rfl rfl rfl (by kernel_rfl) (by kernel_rfl) (by kernel_rfl) (PQ.block (PQ.next (PQ.next (PQ.block (PQ.next (PQ.block (PQ.next (PQ.next (PQ.block (PQ.next PQ.body)))))))))) ?_
      refine D.take 18 (y_idxN (64 * n + 4 * i + 2) rfl Tryd.underlying205 Tb.sz5 rfl rfl (by omega) (by omega) (fun w hs => (Sl.of_fro (hs.get (i := 1) rfl)).some_ hne)) rfl rfl rfl rfl (by kernel_rfl) (by kernel_rfl) (by kernel_rfl) (PQ.block (PQ.next (PQ.next (PQ.block (PQ.next (PQ.block (PQ.next (PQ.next (PQ.block (PQ.next PQ.body)))))))))) ?_
      refine D.take 19 (y_lsl rfl Tb.ag5 rfl (fun w hs => Sl.of_fro (hs.get (i := 1) rfl)) (get_bytes (by omega))) rfl rfl rfl rfl (by kernel_rfl) (by kernel_rfl) (by kernel_rfl) (PQ.block (PQ.next (PQ.next (PQ.block (PQ.next (PQ.block (PQ.next (PQ.next (PQ.block (PQ.next PQ.body)))))))))) ?_
      refine D.take 20 (y_8to32 rfl (isS Tryd.underlying5) Tryd.underlying202 rfl) rfl rfl rfl rfl (by kernel_rfl) (by kernel_rfl) (by kernel_rfl) (PQ.block (PQ.next (PQ.next (PQ.block (PQ.next (PQ.block (PQ.next (PQ.next (PQ.block (PQ.next PQ.body)))))))))) ?_
      refine D.take 21 (y_shl32 (n := 8) rfl rfl rfl (by decide)) rfl rfl rfl rfl (by kernel_rfl) (by kernel_rfl) (by kernel_rfl) (PQ.block (PQ.next (PQ.next (PQ.block (PQ.next (PQ.block (PQ.next (PQ.next (PQ.block (PQ.next PQ.body)))))))))) ?_
      refine D.take 22 (y_add32 rfl rfl rfl) rfl rfl rfl rfl (by kernel_rfl) (by kernel_rfl) (by kernel_rfl) (PQ.block (PQ.next (PQ.next (PQ.block (PQ.next (PQ.block (PQ.next (PQ.next (PQ.block (PQ.next PQ.body)))))))))) ?_
      refine D.take 26 (y_idxN (64 * n + 4 * i + 3) rfl Tryd.underlying205 Tb.sz5 rfl rfl (by omega) (by omega) (fun w hs => (Sl.of_fro (hs.get (i := 1) rfl)).some_ hne)) rfl rfl rfl rfl (by kernel_rfl) (by kernel_rfl) (by kernel_rfl) (PQ.block (PQ.next (PQ.next (PQ.block (PQ.next (PQ.block (PQ.next (PQ.next (PQ.block (PQ.next PQ.body)))))))))) ?_
      refine D.take 27 (y_lsl rfl Tb.ag5 rfl (fun w hs => Sl.of_fro (hs.get (i := 1) rfl)) (get_bytes (by omega))) rfl rfl rfl rfl (by kernel_rfl) (by kernel_rfl) (by kernel_rfl) (PQ.block (PQ.next (PQ.next (PQ.block (PQ.next (PQ.block (PQ.next (PQ.next (PQ.block (PQ.next PQ.body)))))))))) ?_
      refine D.take 28 (y_8to32 rfl (isS Tryd.underlying5) Tryd.underlying202 rfl) rfl rfl rfl rfl (by kernel_rfl) (by kernel_rfl) (by kernel_rfl) (PQ.block (PQ.next (PQ.next (PQ.block (PQ.next (PQ.block (PQ.next (PQ.next (PQ.block (PQ.next PQ.body)))))))))) ?_
      refine D.take 29 (y_add32 rfl rfl rfl) rfl rfl rfl rfl (by kernel_rfl) (by kernel_rfl) (by kernel_rfl) (PQ.block (PQ.next (PQ.next (PQ.block (PQ.next (PQ.block (PQ.next (PQ.next (PQ.block (PQ.next PQ.body)))))))))) ?_
      refine D.take 30 (y_ib1 i rfl Tryd.underlying203 Tb.sz202 rfl rfl rfl (by omega)) rfl rfl rfl rfl (by kernel_rfl) (by kernel_rfl) (by kernel_rfl) (PQ.block (PQ.next (PQ.next (PQ.block (PQ.next (PQ.block (PQ.next (PQ.next (PQ.block (PQ.next PQ.body)))))))))) ?_
      refine D.store1c (cs' := (wl (((padded s).drop (64 * n)).take 64) (i + 1) ++ r.tail).map u32) 31 0 (by kernel_rfl) rfl (by kernel_rfl) (by kernel_rfl) rfl rfl rfl rfl rfl rfl rfl Tb.sz202 rfl (by simp [length_wl, hr]; omega) (by rw [← wl_set _ i r hrn, wv, if_pos (by omega), getW_p _ _ _ (by omega)]; rfl) ?_
      refine JQ.block_normal (JQ.next hK17 ?_)
      refine JC.region ?_
      refine J.yl (y_move rfl rfl) rfl rfl rfl ?_
      refine J.yl (y_add64 rfl rfl rfl (by omega)) rfl rfl rfl ?_
      refine J.yl (y_assign rfl rfl) rfl rfl rfl ?_
      refine J.nil ?_
      refine againK14 (i + 1, r.tail) _ ⟨by dsimp only; omega, by simp [hr]; omega⟩ (by dsimp only; omega) (okE_cons rfl okE_nil) (okE_cons rfl (okE_cons rfl (okE_cons rfl (okE_cons rfl (okE_cons rfl (okE_cons rfl okE_nil))))))
    · obtain rfl : i = 16 := by omega
      refine JC.exit ?_
      refine JQ.then_exit (JQ.then_exit (JQ.block_hit (JQ.next hK12 ?_)))
      refine JC.seq fun K19 hK19 => ?_
      refine JC.seq fun K20 hK20 => ?_
      refine JC.region ?_
      refine J.yl (y_assign rfl rfl) rfl rfl rfl ?_
      refine J.nil ?_
      refine JQ.next hK20 ?_
      refine JC.block ?_
      refine JC.loopE (σ := Nat × List UInt32) (M := fun q => [(10, .int .i64 (q.1 : Int))]) (kp := [(2, _), (3, _), (4, _), (5, _), (6, _), (7, _)]) (hkp := (okE_cons rfl (okE_cons rfl (okE_cons rfl (okE_cons rfl (okE_cons rfl (okE_cons rfl okE_nil))))))) (Dc := fun q => [.box g6 203 ((wl (((padded s).drop (64 * n)).take 64) q.1 ++ q.2).map u32), .fro (.slice A (padded s).length kc) 5 (padded s).length ((padded s).map u8), .box g4 204 (vc v), .box g3 203 (kk.map u32), .box g2 30 (hc H.zero)]) (H := fun _ => F) (Ψ := fun q => 16 ≤ q.1 ∧ q.1 ≤ 64 ∧ q.2.length = 64 - q.1) (μ := fun q => 64 - q.1) (16, r) ⟨by dsimp only; omega, by dsimp only; omega, hr⟩ (okE_cons rfl okE_nil) (fun w h => h) (fun sK21 hK21 K21 againK21 => ?_)
      obtain ⟨i, r⟩ := sK21
      dsimp only at hK21 againK21 ⊢
      obtain ⟨hi6, hi, hr⟩ := hK21
      refine JC.seq fun K22 hK22 => ?_
      refine JC.seq fun K23 hK23 => ?_
      refine JC.region ?_
      refine J.yl (y_move rfl rfl) rfl rfl rfl ?_
      refine J.yl (y_lt rfl rfl rfl) rfl rfl rfl ?_
      refine J.nil ?_
      refine JQ.next hK23 ?_
      refine JC.condp rfl (fun h3 => ?_) (fun h3 => ?_)
      · have hrn : r ≠ [] := by rintro rfl; simp at hr; omega
        refine JC.skip ?_
        refine JQ.next hK22 ?_
        refine JC.seq fun K24 hK24 => ?_
        refine JC.block ?_
        refine JC.seq fun K25 hK25 => ?_
        refine JC.draw (by kernel_rfl) ?_
        refine D.take 0 (y_move rfl rfl) rfl rfl rfl rfl (by kernel_rfl) (by kernel_rfl) (by kernel_rfl) (PQ.next (PQ.block (PQ.next (PQ.next (PQ.block (PQ.next (PQ.block (PQ.next (PQ.next (PQ.block (PQ.next PQ.body))))))))))) ?_
        refine D.take 1 (y_sub64 rfl rfl rfl (by omega)) rfl rfl rfl rfl (by kernel_rfl) (by kernel_rfl) (by kernel_rfl) (PQ.next (PQ.block (PQ.next (PQ.next (PQ.block (PQ.next (PQ.block (PQ.next (PQ.next (PQ.block (PQ.next PQ.body))))))))))) ?_
        refine D.take 4 (y_move rfl rfl) rfl rfl rfl rfl (by kernel_rfl) (by kernel_rfl) (by kernel_rfl) (PQ.next (PQ.block (PQ.next (PQ.next (PQ.block (PQ.next (PQ.block (PQ.next (PQ.next (PQ.block (PQ.next PQ.body))))))))))) ?_
        refine D.take 5 (y_sub64 rfl rfl rfl (by omega)) rfl rfl rfl rfl (by kernel_rfl) (by kernel_rfl) (by kernel_rfl) (PQ.next (PQ.block (PQ.next (PQ.next (PQ.block (PQ.next (PQ.block (PQ.next (PQ.next (PQ.block (PQ.next PQ.body))))))))))) ?_
        refine D.take 2 (y_ib1 (i - 15) rfl Tryd.underlying203 Tb.sz202 rfl rfl (by omega) (by omega)) rfl rfl rfl rfl (by kernel_rfl) (by kernel_rfl) (by kernel_rfl) (PQ.next (PQ.block (PQ.next (PQ.next (PQ.block (PQ.next (PQ.block (PQ.next (PQ.next (PQ.block (PQ.next PQ.body))))))))))) ?_
        refine D.take 3 (y_lb 0 rfl Tb.ag202 rfl rfl (wl_get _ i r (i - 15) (by omega))) rfl rfl rfl rfl (by kernel_rfl) (by kernel_rfl) (by kernel_rfl) (PQ.next (PQ.block (PQ.next (PQ.next (PQ.block (PQ.next (PQ.block (PQ.next (PQ.next (PQ.block (PQ.next PQ.body))))))))))) ?_
        refine D.take 8 (y_assign rfl rfl) rfl rfl rfl rfl (by kernel_rfl) (by kernel_rfl) (by kernel_rfl) (PQ.next (PQ.block (PQ.next (PQ.next (PQ.block (PQ.next (PQ.block (PQ.next (PQ.next (PQ.block (PQ.next PQ.body))))))))))) ?_
        refine D.take 6 (y_ib1 (i - 2) rfl Tryd.underlying203 Tb.sz202 rfl rfl (by omega) (by omega)) rfl rfl rfl rfl (by kernel_rfl) (by kernel_rfl) (by kernel_rfl) (PQ.next (PQ.block (PQ.next (PQ.next (PQ.block (PQ.next (PQ.block (PQ.next (PQ.next (PQ.block (PQ.next PQ.body))))))))))) ?_
        refine D.take 7 (y_lb 0 rfl Tb.ag202 rfl rfl (wl_get _ i r (i - 2) (by omega))) rfl rfl rfl rfl (by kernel_rfl) (by kernel_rfl) (by kernel_rfl) (PQ.next (PQ.block (PQ.next (PQ.next (PQ.block (PQ.next (PQ.block (PQ.next (PQ.next (PQ.block (PQ.next PQ.body))))))))))) ?_
        refine D.take 9 (y_assign rfl rfl) rfl rfl rfl rfl (by kernel_rfl) (by kernel_rfl) (by kernel_rfl) (PQ.next (PQ.block (PQ.next (PQ.next (PQ.block (PQ.next (PQ.block (PQ.next (PQ.next (PQ.block (PQ.next PQ.body))))))))))) ?_
        refine D.done (by kernel_rfl) ?_
        refine JQ.next hK25 ?_
        refine JC.draw (by kernel_rfl) ?_
        refine D.take 0 (y_move rfl rfl) rfl rfl rfl rfl (by kernel_rfl) (by kernel_rfl) (by kernel_rfl) (PQ.block (PQ.next (PQ.next (PQ.block (PQ.next (PQ.block (PQ.next (PQ.next (PQ.block (PQ.next PQ.body)))))))))) ?_
        refine D.take 1 (y_move rfl rfl) rfl rfl rfl rfl (by kernel_rfl) (by kernel_rfl) (by kernel_rfl) (PQ.block (PQ.next (PQ.next (PQ.block (PQ.next (PQ.block (PQ.next (PQ.next (PQ.block (PQ.next PQ.body)))))))))) ?_
        refine D.take 2 (y_sub64 rfl rfl rfl (by omega)) rfl rfl rfl rfl (by kernel_rfl) (by kernel_rfl) (by kernel_rfl) (PQ.block (PQ.next (PQ.next (PQ.block (PQ.next (PQ.block (PQ.next (PQ.next (PQ.block (PQ.next PQ.body)))))))))) ?_
        refine D.take 5 (y_move rfl rfl) rfl rfl rfl rfl (by kernel_rfl) (by kernel_rfl) (by kernel_rfl) (PQ.block (PQ.next (PQ.next (PQ.block (PQ.next (PQ.block (PQ.next (PQ.next (PQ.block (PQ.next PQ.body)))))))))) ?_
        refine D.take 7 (y_move rfl rfl) rfl rfl rfl rfl (by kernel_rfl) (by kernel_rfl) (by kernel_rfl) (PQ.block (PQ.next (PQ.next (PQ.block (PQ.next (PQ.block (PQ.next (PQ.next (PQ.block (PQ.next PQ.body)))))))))) ?_
        refine D.take 10 (y_move rfl rfl) rfl rfl rfl rfl (by kernel_rfl) (by kernel_rfl) (by kernel_rfl) (PQ.block (PQ.next (PQ.next (PQ.block (PQ.next (PQ.block (PQ.next (PQ.next (PQ.block (PQ.next PQ.body)))))))))) ?_
        refine D.take 11 (y_shr32 (n := 3) rfl rfl rfl (by decide)) rfl rfl rfl rfl (by kernel_rfl) (by kernel_rfl) (by kernel_rfl) (PQ.block (PQ.next (PQ.next (PQ.block (PQ.next (PQ.block (PQ.next (PQ.next (PQ.block (PQ.next PQ.body)))))))))) ?_
        refine D.take 14 (y_move rfl rfl) rfl rfl rfl rfl (by kernel_rfl) (by kernel_rfl) (by kernel_rfl) (PQ.block (PQ.next (PQ.next (PQ.block (PQ.next (PQ.block (PQ.next (PQ.next (PQ.block (PQ.next PQ.body)))))))))) ?_
        refine D.take 15 (y_sub64 rfl rfl rfl (by omega)) rfl rfl rfl rfl (by kernel_rfl) (by kernel_rfl) (by kernel_rfl) (PQ.block (PQ.next (PQ.next (PQ.block (PQ.next (PQ.block (PQ.next (PQ.next (PQ.block (PQ.next PQ.body)))))))))) ?_
        refine D.take 19 (y_move rfl rfl) rfl rfl rfl rfl (by kernel_rfl) (by kernel_rfl) (by kernel_rfl) (PQ.block (PQ.next (PQ.next (PQ.block (PQ.next (PQ.block (PQ.next (PQ.next (PQ.block (PQ.next PQ.body)))))))))) ?_
        refine D.take 21 (y_move rfl rfl) rfl rfl rfl rfl (by kernel_rfl) (by kernel_rfl) (by kernel_rfl) (PQ.block (PQ.next (PQ.next (PQ.block (PQ.next (PQ.block (PQ.next (PQ.next (PQ.block (PQ.next PQ.body)))))))))) ?_
        refine D.take 24 (y_move rfl rfl) rfl rfl rfl rfl (by kernel_rfl) (by kernel_rfl) (by kernel_rfl) (PQ.block (PQ.next (PQ.next (PQ.block (PQ.next (PQ.block (PQ.next (PQ.next (PQ.block (PQ.next PQ.body)))))))))) ?_
        refine D.take 25 (y_shr32 (n := 10) rfl rfl rfl (by decide)) rfl rfl rfl rfl (by kernel_rfl) (by kernel_rfl) (by kernel_rfl) (PQ.block (PQ.next (PQ.next (PQ.block (PQ.next (PQ.block (PQ.next (PQ.next (PQ.block (PQ.next PQ.body)))))))))) ?_
        refine D.take 3 (y_ib1 (i - 16) rfl Tryd.underlying203 Tb.sz202 rfl rfl (by omega) (by omega)) rfl rfl rfl rfl (by kernel_rfl) (by kernel_rfl) (by kernel_rfl) (PQ.block (PQ.next (PQ.next (PQ.block (PQ.next (PQ.block (PQ.next (PQ.next (PQ.block (PQ.next PQ.body)))))))))) ?_
        refine D.take 4 (y_lb 0 rfl Tb.ag202 rfl rfl (wl_get _ i r (i - 16) (by omega))) rfl rfl rfl rfl (by kernel_rfl) (by kernel_rfl) (by kernel_rfl) (PQ.block (PQ.next (PQ.next (PQ.block (PQ.next (PQ.block (PQ.next (PQ.next (PQ.block (PQ.next PQ.body)))))))))) ?_
        refine D.take 16 (y_ib1 (i - 7) rfl Tryd.underlying203 Tb.sz202 rfl rfl (by omega) (by omega)) rfl rfl rfl rfl (by kernel_rfl) (by kernel_rfl) (by kernel_rfl) (PQ.block (PQ.next (PQ.next (PQ.block (PQ.next (PQ.block (PQ.next (PQ.next (PQ.block (PQ.next PQ.body)))))))))) ?_
        refine D.take 17 (y_lb 0 rfl Tb.ag202 rfl rfl (wl_get _ i r (i - 7) (by omega))) rfl rfl rfl rfl (by kernel_rfl) (by kernel_rfl) (by kernel_rfl) (PQ.block (PQ.next (PQ.next (PQ.block (PQ.next (PQ.block (PQ.next (PQ.next (PQ.block (PQ.next PQ.body)))))))))) ?_
        refine D.callv 6 (by kernel_rfl) rfl rfl rfl rfl rfl Tb.cl162 rfl (turn_spec _ 7 (by decide)) ?_
        refine D.callv 8 (by kernel_rfl) rfl rfl rfl rfl rfl Tb.cl162 rfl (turn_spec _ 18 (by decide)) ?_
        refine D.take 9 (y_xor32 rfl rfl rfl) rfl rfl rfl rfl (by kernel_rfl) (by kernel_rfl) (by kernel_rfl) (PQ.block (PQ.next (PQ.next (PQ.block (PQ.next (PQ.block (PQ.next (PQ.next (PQ.block (PQ.next PQ.body)))))))))) ?_
        refine D.take 12 (y_xor32 rfl rfl rfl) rfl rfl rfl rfl (by kernel_rfl) (by kernel_rfl) (by kernel_rfl) (PQ.block (PQ.next (PQ.next (PQ.block (PQ.next (PQ.block (PQ.next (PQ.next (PQ.block (PQ.next PQ.body)))))))))) ?_
        refine D.take 13 (y_add32 rfl rfl rfl) rfl rfl rfl rfl (by kernel_rfl) (by kernel_rfl) (by kernel_rfl) (PQ.block (PQ.next (PQ.next (PQ.block (PQ.next (PQ.block (PQ.next (PQ.next (PQ.block (PQ.next PQ.body)))))))))) ?_
        refine D.take 18 (y_add32 rfl rfl rfl) rfl rfl rfl rfl (by kernel_rfl) (by kernel_rfl) (by kernel_rfl) (PQ.block (PQ.next (PQ.next (PQ.block (PQ.next (PQ.block (PQ.next (PQ.next (PQ.block (PQ.next PQ.body)))))))))) ?_
        refine D.callv 20 (by kernel_rfl) rfl rfl rfl rfl rfl Tb.cl162 rfl (turn_spec _ 17 (by decide)) ?_
        refine D.callv 22 (by kernel_rfl) rfl rfl rfl rfl rfl Tb.cl162 rfl (turn_spec _ 19 (by decide)) ?_
        refine D.take 23 (y_xor32 rfl rfl rfl) rfl rfl rfl rfl (by kernel_rfl) (by kernel_rfl) (by kernel_rfl) (PQ.block (PQ.next (PQ.next (PQ.block (PQ.next (PQ.block (PQ.next (PQ.next (PQ.block (PQ.next PQ.body)))))))))) ?_
        refine D.take 26 (y_xor32 rfl rfl rfl) rfl rfl rfl rfl (by kernel_rfl) (by kernel_rfl) (by kernel_rfl) (PQ.block (PQ.next (PQ.next (PQ.block (PQ.next (PQ.block (PQ.next (PQ.next (PQ.block (PQ.next PQ.body)))))))))) ?_
        refine D.take 27 (y_add32 rfl rfl rfl) rfl rfl rfl rfl (by kernel_rfl) (by kernel_rfl) (by kernel_rfl) (PQ.block (PQ.next (PQ.next (PQ.block (PQ.next (PQ.block (PQ.next (PQ.next (PQ.block (PQ.next PQ.body)))))))))) ?_
        refine D.take 28 (y_ib1 i rfl Tryd.underlying203 Tb.sz202 rfl rfl rfl (by omega)) rfl rfl rfl rfl (by kernel_rfl) (by kernel_rfl) (by kernel_rfl) (PQ.block (PQ.next (PQ.next (PQ.block (PQ.next (PQ.block (PQ.next (PQ.next (PQ.block (PQ.next PQ.body)))))))))) ?_
        refine D.store1c (cs' := (wl (((padded s).drop (64 * n)).take 64) (i + 1) ++ r.tail).map u32) 29 0 (by kernel_rfl) rfl (by kernel_rfl) (by kernel_rfl) rfl rfl rfl rfl rfl rfl rfl Tb.sz202 rfl (by simp [length_wl, hr]; omega) (by rw [← wl_set _ i r hrn, ← wv_alt _ _ _ hi6]) ?_
        refine JQ.block_normal (JQ.next hK24 ?_)
        refine JC.region ?_
        refine J.yl (y_move rfl rfl) rfl rfl rfl ?_
        refine J.yl (y_add64 rfl rfl rfl (by omega)) rfl rfl rfl ?_
        refine J.yl (y_assign rfl rfl) rfl rfl rfl ?_
        refine J.nil ?_
        refine againK21 (i + 1, r.tail) _ ⟨by dsimp only; omega, by dsimp only; omega, by simp [hr]; omega⟩ (by dsimp only; omega) (okE_cons rfl okE_nil) (okE_cons rfl (okE_cons rfl (okE_cons rfl (okE_cons rfl (okE_cons rfl (okE_cons rfl okE_nil))))))
      · obtain rfl : i = 64 := by omega
        obtain rfl : r = [] := List.eq_nil_of_length_eq_zero (by omega)
        rw [List.append_nil]
        refine JC.exit ?_
        refine JQ.then_exit (JQ.then_exit (JQ.block_hit (JQ.next hK19 ?_)))
        refine JC.seq fun K26 hK26 => ?_
        refine JC.draw (by kernel_rfl) ?_
        refine D.take 0 (y_ib rfl Tryd.underlying204 Tb.sz202 rfl rfl (by decide)) rfl rfl rfl rfl (by kernel_rfl) (by kernel_rfl) (by kernel_rfl) (PQ.next (PQ.block (PQ.next (PQ.next (PQ.block (PQ.next PQ.body)))))) ?_
        refine D.take 1 (y_lb 2 rfl Tb.ag202 rfl rfl rfl) rfl rfl rfl rfl (by kernel_rfl) (by kernel_rfl) (by kernel_rfl) (PQ.next (PQ.block (PQ.next (PQ.next (PQ.block (PQ.next PQ.body)))))) ?_
        refine D.take 2 (y_ib rfl Tryd.underlying204 Tb.sz202 rfl rfl (by decide)) rfl rfl rfl rfl (by kernel_rfl) (by kernel_rfl) (by kernel_rfl) (PQ.next (PQ.block (PQ.next (PQ.next (PQ.block (PQ.next PQ.body)))))) ?_
        refine D.take 3 (y_lb 2 rfl Tb.ag202 rfl rfl rfl) rfl rfl rfl rfl (by kernel_rfl) (by kernel_rfl) (by kernel_rfl) (PQ.next (PQ.block (PQ.next (PQ.next (PQ.block (PQ.next PQ.body)))))) ?_
        refine D.take 4 (y_ib rfl Tryd.underlying204 Tb.sz202 rfl rfl (by decide)) rfl rfl rfl rfl (by kernel_rfl) (by kernel_rfl) (by kernel_rfl) (PQ.next (PQ.block (PQ.next (PQ.next (PQ.block (PQ.next PQ.body)))))) ?_
        refine D.take 5 (y_lb 2 rfl Tb.ag202 rfl rfl rfl) rfl rfl rfl rfl (by kernel_rfl) (by kernel_rfl) (by kernel_rfl) (PQ.next (PQ.block (PQ.next (PQ.next (PQ.block (PQ.next PQ.body)))))) ?_
        refine D.take 6 (y_ib rfl Tryd.underlying204 Tb.sz202 rfl rfl (by decide)) rfl rfl rfl rfl (by kernel_rfl) (by kernel_rfl) (by kernel_rfl) (PQ.next (PQ.block (PQ.next (PQ.next (PQ.block (PQ.next PQ.body)))))) ?_
        refine D.take 7 (y_lb 2 rfl Tb.ag202 rfl rfl rfl) rfl rfl rfl rfl (by kernel_rfl) (by kernel_rfl) (by kernel_rfl) (PQ.next (PQ.block (PQ.next (PQ.next (PQ.block (PQ.next PQ.body)))))) ?_
        refine D.take 8 (y_ib rfl Tryd.underlying204 Tb.sz202 rfl rfl (by decide)) rfl rfl rfl rfl (by kernel_rfl) (by kernel_rfl) (by kernel_rfl) (PQ.next (PQ.block (PQ.next (PQ.next (PQ.block (PQ.next PQ.body)))))) ?_
        refine D.take 9 (y_lb 2 rfl Tb.ag202 rfl rfl rfl) rfl rfl rfl rfl (by kernel_rfl) (by kernel_rfl) (by kernel_rfl) (PQ.next (PQ.block (PQ.next (PQ.next (PQ.block (PQ.next PQ.body)))))) ?_
        refine D.take 10 (y_ib rfl Tryd.underlying204 Tb.sz202 rfl rfl (by decide)) rfl rfl rfl rfl (by kernel_rfl) (by kernel_rfl) (by kernel_rfl) (PQ.next (PQ.block (PQ.next (PQ.next (PQ.block (PQ.next PQ.body)))))) ?_
        refine D.take 11 (y_lb 2 rfl Tb.ag202 rfl rfl rfl) rfl rfl rfl rfl (by kernel_rfl) (by kernel_rfl) (by kernel_rfl) (PQ.next (PQ.block (PQ.next (PQ.next (PQ.block (PQ.next PQ.body)))))) ?_
        refine D.take 12 (y_ib rfl Tryd.underlying204 Tb.sz202 rfl rfl (by decide)) rfl rfl rfl rfl (by kernel_rfl) (by kernel_rfl) (by kernel_rfl) (PQ.next (PQ.block (PQ.next (PQ.next (PQ.block (PQ.next PQ.body)))))) ?_
        refine D.take 13 (y_lb 2 rfl Tb.ag202 rfl rfl rfl) rfl rfl rfl rfl (by kernel_rfl) (by kernel_rfl) (by kernel_rfl) (PQ.next (PQ.block (PQ.next (PQ.next (PQ.block (PQ.next PQ.body)))))) ?_
        refine D.take 14 (y_ib rfl Tryd.underlying204 Tb.sz202 rfl rfl (by decide)) rfl rfl rfl rfl (by kernel_rfl) (by kernel_rfl) (by kernel_rfl) (PQ.next (PQ.block (PQ.next (PQ.next (PQ.block (PQ.next PQ.body)))))) ?_
        refine D.take 15 (y_lb 2 rfl Tb.ag202 rfl rfl rfl) rfl rfl rfl rfl (by kernel_rfl) (by kernel_rfl) (by kernel_rfl) (PQ.next (PQ.block (PQ.next (PQ.next (PQ.block (PQ.next PQ.body)))))) ?_
        refine D.take 16 (y_assign rfl rfl) rfl rfl rfl rfl (by kernel_rfl) (by kernel_rfl) (by kernel_rfl) (PQ.next (PQ.block (PQ.next (PQ.next (PQ.block (PQ.next PQ.body)))))) ?_
        refine D.take 17 (y_assign rfl rfl) rfl rfl rfl rfl (by kernel_rfl) (by kernel_rfl) (by kernel_rfl) (PQ.next (PQ.block (PQ.next (PQ.next (PQ.block (PQ.next PQ.body)))))) ?_
        refine D.take 18 (y_assign rfl rfl) rfl rfl rfl rfl (by kernel_rfl) (by kernel_rfl) (by kernel_rfl) (PQ.next (PQ.block (PQ.next (PQ.next (PQ.block (PQ.next PQ.body)))))) ?_
        refine D.take 19 (y_assign rfl rfl) rfl rfl rfl rfl (by kernel_rfl) (by kernel_rfl) (by kernel_rfl) (PQ.next (PQ.block (PQ.next (PQ.next (PQ.block (PQ.next PQ.body)))))) ?_
        refine D.take 20 (y_assign rfl rfl) rfl rfl rfl rfl (by kernel_rfl) (by kernel_rfl) (by kernel_rfl) (PQ.next (PQ.block (PQ.next (PQ.next (PQ.block (PQ.next PQ.body)))))) ?_
        refine D.take 21 (y_assign rfl rfl) rfl rfl rfl rfl (by kernel_rfl) (by kernel_rfl) (by kernel_rfl) (PQ.next (PQ.block (PQ.next (PQ.next (PQ.block (PQ.next PQ.body)))))) ?_
        refine D.take 22 (y_assign rfl rfl) rfl rfl rfl rfl (by kernel_rfl) (by kernel_rfl) (by kernel_rfl) (PQ.next (PQ.block (PQ.next (PQ.next (PQ.block (PQ.next PQ.body)))))) ?_
        refine D.take 23 (y_assign rfl rfl) rfl rfl rfl rfl (by kernel_rfl) (by kernel_rfl) (by kernel_rfl) (PQ.next (PQ.block (PQ.next (PQ.next (PQ.block (PQ.next PQ.body)))))) ?_
        refine D.done (by kernel_rfl) ?_
        refine JQ.next hK26 ?_
        refine JC.seq fun K27 hK27 => ?_
        refine JC.seq fun K28 hK28 => ?_
        refine JC.region ?_
        refine J.yl (y_assign rfl rfl) rfl rfl rfl ?_
        refine J.nil ?_
        refine JQ.next hK28 ?_
        refine JC.block ?_
        have hbl2 : bls ((padded s).length / 64 - (n + 1)) (comp v (((padded s).drop (64 * n)).take 64)) ((padded s).drop (64 * (n + 1))) = bls ((padded s).length / 64) v0 (padded s) := by
          rw [← hbl, show (padded s).length / 64 - n = ((padded s).length / 64 - (n + 1)) + 1 by omega, bls, List.drop_drop, show 64 * n + 64 = 64 * (n + 1) by omega]
        generalize hm : ((padded s).drop (64 * n)).take 64 = m at hbl2 ⊢
        refine JC.loopE (σ := Nat) (M := fun i => [(21, .int .i64 (i : Int)), (13, u32 (rs m v i).a), (14, u32 (rs m v i).b), (15, u32 (rs m v i).c), (16, u32 (rs m v i).d), (17, u32 (rs m v i).e), (18, u32 (rs m v i).f), (19, u32 (rs m v i).g), (20, u32 (rs m v i).h)]) (kp := [(2, _), (3, _), (4, _), (5, _), (6, _), (7, _)]) (hkp := (okE_cons rfl (okE_cons rfl (okE_cons rfl (okE_cons rfl (okE_cons rfl (okE_cons rfl okE_nil))))))) (Dc := fun i => [.box g6 203 ((wl m 64).map u32), .fro (.slice A (padded s).length kc) 5 (padded s).length ((padded s).map u8), .box g4 204 (vc v), .box g3 203 (kk.map u32), .box g2 30 (hc H.zero)]) (H := fun _ => F) (Ψ := fun i => i ≤ 64) (μ := fun i => 64 - i) 0 (by omega) (okE_cons rfl (okE_cons rfl (okE_cons rfl (okE_cons rfl (okE_cons rfl (okE_cons rfl (okE_cons rfl (okE_cons rfl (okE_cons rfl okE_nil))))))))) (fun w h => h) (fun i hi K29 againK29 => ?_)
        refine JC.seq fun K30 hK30 => ?_
        refine JC.seq fun K31 hK31 => ?_
        refine JC.region ?_
        refine J.yl (y_move rfl rfl) rfl rfl rfl ?_
        refine J.yl (y_lt rfl rfl rfl) rfl rfl rfl ?_
        refine J.nil ?_
        refine JQ.next hK31 ?_
        refine JC.condp rfl (fun h4 => ?_) (fun h4 => ?_)
        · refine JC.skip ?_
          refine JQ.next hK30 ?_
          refine JC.seq fun K32 hK32 => ?_
          refine JC.block ?_
          refine JC.seq fun K33 hK33 => ?_
          refine JC.draw (by kernel_rfl) ?_
          refine D.take 0 (y_move rfl rfl) rfl rfl rfl rfl (by kernel_rfl) (by kernel_rfl) (by kernel_rfl) (PQ.next (PQ.block (PQ.next (PQ.next (PQ.block (PQ.next (PQ.block (PQ.next (PQ.next (PQ.block (PQ.next PQ.body))))))))))) ?_
          refine D.take 1 (y_move rfl rfl) rfl rfl rfl rfl (by kernel_rfl) (by kernel_rfl) (by kernel_rfl) (PQ.next (PQ.block (PQ.next (PQ.next (PQ.block (PQ.next (PQ.block (PQ.next (PQ.next (PQ.block (PQ.next PQ.body))))))))))) ?_
          refine D.take 3 (y_move rfl rfl) rfl rfl rfl rfl (by kernel_rfl) (by kernel_rfl) (by kernel_rfl) (PQ.next (PQ.block (PQ.next (PQ.next (PQ.block (PQ.next (PQ.block (PQ.next (PQ.next (PQ.block (PQ.next PQ.body))))))))))) ?_
          refine D.take 6 (y_move rfl rfl) rfl rfl rfl rfl (by kernel_rfl) (by kernel_rfl) (by kernel_rfl) (PQ.next (PQ.block (PQ.next (PQ.next (PQ.block (PQ.next (PQ.block (PQ.next (PQ.next (PQ.block (PQ.next PQ.body))))))))))) ?_
          refine D.take 10 (y_move rfl rfl) rfl rfl rfl rfl (by kernel_rfl) (by kernel_rfl) (by kernel_rfl) (PQ.next (PQ.block (PQ.next (PQ.next (PQ.block (PQ.next (PQ.block (PQ.next (PQ.next (PQ.block (PQ.next PQ.body))))))))))) ?_
          refine D.take 11 (y_move rfl rfl) rfl rfl rfl rfl (by kernel_rfl) (by kernel_rfl) (by kernel_rfl) (PQ.next (PQ.block (PQ.next (PQ.next (PQ.block (PQ.next (PQ.block (PQ.next (PQ.next (PQ.block (PQ.next PQ.body))))))))))) ?_
          refine D.take 12 (y_and32 rfl rfl rfl) rfl rfl rfl rfl (by kernel_rfl) (by kernel_rfl) (by kernel_rfl) (PQ.next (PQ.block (PQ.next (PQ.next (PQ.block (PQ.next (PQ.block (PQ.next (PQ.next (PQ.block (PQ.next PQ.body))))))))))) ?_
          refine D.take 13 (y_move rfl rfl) rfl rfl rfl rfl (by kernel_rfl) (by kernel_rfl) (by kernel_rfl) (PQ.next (PQ.block (PQ.next (PQ.next (PQ.block (PQ.next (PQ.block (PQ.next (PQ.next (PQ.block (PQ.next PQ.body))))))))))) ?_
          refine D.take 14 (y_not32 rfl rfl) rfl rfl rfl rfl (by kernel_rfl) (by kernel_rfl) (by kernel_rfl) (PQ.next (PQ.block (PQ.next (PQ.next (PQ.block (PQ.next (PQ.block (PQ.next (PQ.next (PQ.block (PQ.next PQ.body))))))))))) ?_
          refine D.take 15 (y_move rfl rfl) rfl rfl rfl rfl (by kernel_rfl) (by kernel_rfl) (by kernel_rfl) (PQ.next (PQ.block (PQ.next (PQ.next (PQ.block (PQ.next (PQ.block (PQ.next (PQ.next (PQ.block (PQ.next PQ.body))))))))))) ?_
          refine D.take 16 (y_and32 rfl rfl rfl) rfl rfl rfl rfl (by kernel_rfl) (by kernel_rfl) (by kernel_rfl) (PQ.next (PQ.block (PQ.next (PQ.next (PQ.block (PQ.next (PQ.block (PQ.next (PQ.next (PQ.block (PQ.next PQ.body))))))))))) ?_
          refine D.take 17 (y_xor32 rfl rfl rfl) rfl rfl rfl rfl (by kernel_rfl) (by kernel_rfl) (by kernel_rfl) (PQ.next (PQ.block (PQ.next (PQ.next (PQ.block (PQ.next (PQ.block (PQ.next (PQ.next (PQ.block (PQ.next PQ.body))))))))))) ?_
          refine D.take 19 (y_move rfl rfl) rfl rfl rfl rfl (by kernel_rfl) (by kernel_rfl) (by kernel_rfl) (PQ.next (PQ.block (PQ.next (PQ.next (PQ.block (PQ.next (PQ.block (PQ.next (PQ.next (PQ.block (PQ.next PQ.body))))))))))) ?_
          refine D.take 23 (y_move rfl rfl) rfl rfl rfl rfl (by kernel_rfl) (by kernel_rfl) (by kernel_rfl) (PQ.next (PQ.block (PQ.next (PQ.next (PQ.block (PQ.next (PQ.block (PQ.next (PQ.next (PQ.block (PQ.next PQ.body))))))))))) ?_
          refine D.take 20 (y_ib1 i rfl Tryd.underlying203 Tb.sz202 rfl rfl rfl (by omega)) rfl rfl rfl rfl (by kernel_rfl) (by kernel_rfl) (by kernel_rfl) (PQ.next (PQ.block (PQ.next (PQ.next (PQ.block (PQ.next (PQ.block (PQ.next (PQ.next (PQ.block (PQ.next PQ.body))))))))))) ?_
          refine D.take 21 (y_lb 3 rfl Tb.ag202 rfl rfl (kk_get i (by omega))) rfl rfl rfl rfl (by kernel_rfl) (by kernel_rfl) (by kernel_rfl) (PQ.next (PQ.block (PQ.next (PQ.next (PQ.block (PQ.next (PQ.block (PQ.next (PQ.next (PQ.block (PQ.next PQ.body))))))))))) ?_
          refine D.take 24 (y_ib1 i rfl Tryd.underlying203 Tb.sz202 rfl rfl rfl (by omega)) rfl rfl rfl rfl (by kernel_rfl) (by kernel_rfl) (by kernel_rfl) (PQ.next (PQ.block (PQ.next (PQ.next (PQ.block (PQ.next (PQ.block (PQ.next (PQ.next (PQ.block (PQ.next PQ.body))))))))))) ?_
          refine D.take 25 (y_lb 0 rfl Tb.ag202 rfl rfl (wl_getm m 64 i (by omega))) rfl rfl rfl rfl (by kernel_rfl) (by kernel_rfl) (by kernel_rfl) (PQ.next (PQ.block (PQ.next (PQ.next (PQ.block (PQ.next (PQ.block (PQ.next (PQ.next (PQ.block (PQ.next PQ.body))))))))))) ?_
          refine D.callv 2 (by kernel_rfl) rfl rfl rfl rfl rfl Tb.cl162 rfl (turn_spec _ 6 (by decide)) ?_
          refine D.callv 4 (by kernel_rfl) rfl rfl rfl rfl rfl Tb.cl162 rfl (turn_spec _ 11 (by decide)) ?_
          refine D.take 5 (y_xor32 rfl rfl rfl) rfl rfl rfl rfl (by kernel_rfl) (by kernel_rfl) (by kernel_rfl) (PQ.next (PQ.block (PQ.next (PQ.next (PQ.block (PQ.next (PQ.block (PQ.next (PQ.next (PQ.block (PQ.next PQ.body))))))))))) ?_
          refine D.callv 7 (by kernel_rfl) rfl rfl rfl rfl rfl Tb.cl162 rfl (turn_spec _ 25 (by decide)) ?_
          refine D.take 8 (y_xor32 rfl rfl rfl) rfl rfl rfl rfl (by kernel_rfl) (by kernel_rfl) (by kernel_rfl) (PQ.next (PQ.block (PQ.next (PQ.next (PQ.block (PQ.next (PQ.block (PQ.next (PQ.next (PQ.block (PQ.next PQ.body))))))))))) ?_
          refine D.take 9 (y_add32 rfl rfl rfl) rfl rfl rfl rfl (by kernel_rfl) (by kernel_rfl) (by kernel_rfl) (PQ.next (PQ.block (PQ.next (PQ.next (PQ.block (PQ.next (PQ.block (PQ.next (PQ.next (PQ.block (PQ.next PQ.body))))))))))) ?_
          refine D.take 18 (y_add32 rfl rfl rfl) rfl rfl rfl rfl (by kernel_rfl) (by kernel_rfl) (by kernel_rfl) (PQ.next (PQ.block (PQ.next (PQ.next (PQ.block (PQ.next (PQ.block (PQ.next (PQ.next (PQ.block (PQ.next PQ.body))))))))))) ?_
          refine D.take 22 (y_add32 rfl rfl rfl) rfl rfl rfl rfl (by kernel_rfl) (by kernel_rfl) (by kernel_rfl) (PQ.next (PQ.block (PQ.next (PQ.next (PQ.block (PQ.next (PQ.block (PQ.next (PQ.next (PQ.block (PQ.next PQ.body))))))))))) ?_
          refine D.take 26 (y_add32 rfl rfl rfl) rfl rfl rfl rfl (by kernel_rfl) (by kernel_rfl) (by kernel_rfl) (PQ.next (PQ.block (PQ.next (PQ.next (PQ.block (PQ.next (PQ.block (PQ.next (PQ.next (PQ.block (PQ.next PQ.body))))))))))) ?_
          refine D.take 27 (y_assign rfl rfl) rfl rfl rfl rfl (by kernel_rfl) (by kernel_rfl) (by kernel_rfl) (PQ.next (PQ.block (PQ.next (PQ.next (PQ.block (PQ.next (PQ.block (PQ.next (PQ.next (PQ.block (PQ.next PQ.body))))))))))) ?_
          refine D.done (by kernel_rfl) ?_
          refine JQ.next hK33 ?_
          refine JC.seq fun K34 hK34 => ?_
          refine JC.region ?_
          refine J.yl (y_move rfl rfl) rfl rfl rfl ?_
          refine J.callv rfl rfl rfl rfl Tb.cl162 rfl (turn_spec _ 2 (by decide)) ?_
          refine J.yl (y_move rfl rfl) rfl rfl rfl ?_
          refine J.callv rfl rfl rfl rfl Tb.cl162 rfl (turn_spec _ 13 (by decide)) ?_
          refine J.yl (y_xor32 rfl rfl rfl) rfl rfl rfl ?_
          refine J.yl (y_move rfl rfl) rfl rfl rfl ?_
          refine J.callv rfl rfl rfl rfl Tb.cl162 rfl (turn_spec _ 22 (by decide)) ?_
          refine J.yl (y_xor32 rfl rfl rfl) rfl rfl rfl ?_
          refine J.yl (y_move rfl rfl) rfl rfl rfl ?_
          refine J.yl (y_move rfl rfl) rfl rfl rfl ?_
          refine J.yl (y_and32 rfl rfl rfl) rfl rfl rfl ?_
          refine J.yl (y_move rfl rfl) rfl rfl rfl ?_
          refine J.yl (y_move rfl rfl) rfl rfl rfl ?_
          refine J.yl (y_and32 rfl rfl rfl) rfl rfl rfl ?_
          refine J.yl (y_xor32 rfl rfl rfl) rfl rfl rfl ?_
          refine J.yl (y_move rfl rfl) rfl rfl rfl ?_
          refine J.yl (y_move rfl rfl) rfl rfl rfl ?_
          refine J.yl (y_and32 rfl rfl rfl) rfl rfl rfl ?_
          refine J.yl (y_xor32 rfl rfl rfl) rfl rfl rfl ?_
          refine J.yl (y_add32 rfl rfl rfl) rfl rfl rfl ?_
          refine J.yl (y_assign rfl rfl) rfl rfl rfl ?_
          refine J.nil ?_
          refine JQ.next hK34 ?_
          refine JC.region ?_
          refine J.yl (y_move rfl rfl) rfl rfl rfl ?_
          refine J.yl (y_move rfl rfl) rfl rfl rfl ?_
          refine J.yl (y_move rfl rfl) rfl rfl rfl ?_
          refine J.yl (y_move rfl rfl) rfl rfl rfl ?_
          refine J.yl (y_move rfl rfl) rfl rfl rfl ?_
          refine J.yl (y_add32 rfl rfl rfl) rfl rfl rfl ?_
          refine J.yl (y_move rfl rfl) rfl rfl rfl ?_
          refine J.yl (y_move rfl rfl) rfl rfl rfl ?_
          refine J.yl (y_move rfl rfl) rfl rfl rfl ?_
          refine J.yl (y_move rfl rfl) rfl rfl rfl ?_
          refine J.yl (y_move rfl rfl) rfl rfl rfl ?_
          refine J.yl (y_add32 rfl rfl rfl) rfl rfl rfl ?_
          refine J.yl (y_assign rfl rfl) rfl rfl rfl ?_
          refine J.yl (y_assign rfl rfl) rfl rfl rfl ?_
          refine J.yl (y_assign rfl rfl) rfl rfl rfl ?_
          refine J.yl (y_assign rfl rfl) rfl rfl rfl ?_
          refine J.yl (y_assign rfl rfl) rfl rfl rfl ?_
          refine J.yl (y_assign rfl rfl) rfl rfl rfl ?_
          refine J.yl (y_assign rfl rfl) rfl rfl rfl ?_
          refine J.yl (y_assign rfl rfl) rfl rfl rfl ?_
          refine J.nil ?_
          refine JQ.block_normal (JQ.next hK32 ?_)
          refine JC.region ?_
          refine J.yl (y_move rfl rfl) rfl rfl rfl ?_
          refine J.yl (y_add64 rfl rfl rfl (by omega)) rfl rfl rfl ?_
          refine J.yl (y_assign rfl rfl) rfl rfl rfl ?_
          refine J.nil ?_
          refine againK29 (i + 1) _ (by omega) (by omega) (okE_cons rfl (okE_cons rfl (okE_cons rfl (okE_cons rfl (okE_cons rfl (okE_cons rfl (okE_cons rfl (okE_cons rfl (okE_cons rfl okE_nil))))))))) (okE_cons rfl (okE_cons rfl (okE_cons rfl (okE_cons rfl (okE_cons rfl (okE_cons rfl okE_nil))))))
        · obtain rfl : i = 64 := by omega
          refine JC.exit ?_
          refine JQ.then_exit (JQ.then_exit (JQ.block_hit (JQ.next hK27 ?_)))
          refine JC.region ?_
          refine J.yl (y_ib rfl Tryd.underlying204 Tb.sz202 rfl rfl (by decide)) rfl rfl rfl ?_
          refine J.yl (y_lb 2 rfl Tb.ag202 rfl rfl rfl) rfl rfl rfl ?_
          refine J.yl (y_move rfl rfl) rfl rfl rfl ?_
          refine J.yl (y_add32 rfl rfl rfl) rfl rfl rfl ?_
          refine J.yl (y_ib rfl Tryd.underlying204 Tb.sz202 rfl rfl (by decide)) rfl rfl rfl ?_
          refine J.yl (y_lb 2 rfl Tb.ag202 rfl rfl rfl) rfl rfl rfl ?_
          refine J.yl (y_move rfl rfl) rfl rfl rfl ?_
          refine J.yl (y_add32 rfl rfl rfl) rfl rfl rfl ?_
          refine J.yl (y_ib rfl Tryd.underlying204 Tb.sz202 rfl rfl (by decide)) rfl rfl rfl ?_
          refine J.yl (y_lb 2 rfl Tb.ag202 rfl rfl rfl) rfl rfl rfl ?_
          refine J.yl (y_move rfl rfl) rfl rfl rfl ?_
          refine J.yl (y_add32 rfl rfl rfl) rfl rfl rfl ?_
          refine J.yl (y_ib rfl Tryd.underlying204 Tb.sz202 rfl rfl (by decide)) rfl rfl rfl ?_
          refine J.yl (y_lb 2 rfl Tb.ag202 rfl rfl rfl) rfl rfl rfl ?_
          refine J.yl (y_move rfl rfl) rfl rfl rfl ?_
          refine J.yl (y_add32 rfl rfl rfl) rfl rfl rfl ?_
          refine J.yl (y_ib rfl Tryd.underlying204 Tb.sz202 rfl rfl (by decide)) rfl rfl rfl ?_
          refine J.yl (y_lb 2 rfl Tb.ag202 rfl rfl rfl) rfl rfl rfl ?_
          refine J.yl (y_move rfl rfl) rfl rfl rfl ?_
          refine J.yl (y_add32 rfl rfl rfl) rfl rfl rfl ?_
          refine J.yl (y_ib rfl Tryd.underlying204 Tb.sz202 rfl rfl (by decide)) rfl rfl rfl ?_
          refine J.yl (y_lb 2 rfl Tb.ag202 rfl rfl rfl) rfl rfl rfl ?_
          refine J.yl (y_move rfl rfl) rfl rfl rfl ?_
          refine J.yl (y_add32 rfl rfl rfl) rfl rfl rfl ?_
          refine J.yl (y_ib rfl Tryd.underlying204 Tb.sz202 rfl rfl (by decide)) rfl rfl rfl ?_
          refine J.yl (y_lb 2 rfl Tb.ag202 rfl rfl rfl) rfl rfl rfl ?_
          refine J.yl (y_move rfl rfl) rfl rfl rfl ?_
          refine J.yl (y_add32 rfl rfl rfl) rfl rfl rfl ?_
          refine J.yl (y_ib rfl Tryd.underlying204 Tb.sz202 rfl rfl (by decide)) rfl rfl rfl ?_
          refine J.yl (y_lb 2 rfl Tb.ag202 rfl rfl rfl) rfl rfl rfl ?_
          refine J.yl (y_move rfl rfl) rfl rfl rfl ?_
          refine J.yl (y_add32 rfl rfl rfl) rfl rfl rfl ?_
          refine J.yl (y_ib rfl Tryd.underlying204 Tb.sz202 rfl rfl (by decide)) rfl rfl rfl ?_
          refine J.store1 2 rfl rfl rfl rfl rfl rfl rfl Tb.sz202 (by first | (simp; done) | exact Nat.le_of_ble_eq_true rfl) rfl ?_
          refine J.yl (y_ib rfl Tryd.underlying204 Tb.sz202 rfl rfl (by decide)) rfl rfl rfl ?_
          refine J.store1 2 rfl rfl rfl rfl rfl rfl rfl Tb.sz202 (by first | (simp; done) | exact Nat.le_of_ble_eq_true rfl) rfl ?_
          refine J.yl (y_ib rfl Tryd.underlying204 Tb.sz202 rfl rfl (by decide)) rfl rfl rfl ?_
          refine J.store1 2 rfl rfl rfl rfl rfl rfl rfl Tb.sz202 (by first | (simp; done) | exact Nat.le_of_ble_eq_true rfl) rfl ?_
          refine J.yl (y_ib rfl Tryd.underlying204 Tb.sz202 rfl rfl (by decide)) rfl rfl rfl ?_
          refine J.store1 2 rfl rfl rfl rfl rfl rfl rfl Tb.sz202 (by first | (simp; done) | exact Nat.le_of_ble_eq_true rfl) rfl ?_
          refine J.yl (y_ib rfl Tryd.underlying204 Tb.sz202 rfl rfl (by decide)) rfl rfl rfl ?_
          refine J.store1 2 rfl rfl rfl rfl rfl rfl rfl Tb.sz202 (by first | (simp; done) | exact Nat.le_of_ble_eq_true rfl) rfl ?_
          refine J.yl (y_ib rfl Tryd.underlying204 Tb.sz202 rfl rfl (by decide)) rfl rfl rfl ?_
          refine J.store1 2 rfl rfl rfl rfl rfl rfl rfl Tb.sz202 (by first | (simp; done) | exact Nat.le_of_ble_eq_true rfl) rfl ?_
          refine J.yl (y_ib rfl Tryd.underlying204 Tb.sz202 rfl rfl (by decide)) rfl rfl rfl ?_
          refine J.store1 2 rfl rfl rfl rfl rfl rfl rfl Tb.sz202 (by first | (simp; done) | exact Nat.le_of_ble_eq_true rfl) rfl ?_
          refine J.yl (y_ib rfl Tryd.underlying204 Tb.sz202 rfl rfl (by decide)) rfl rfl rfl ?_
          refine J.store1 2 rfl rfl rfl rfl rfl rfl rfl Tb.sz202 (by first | (simp; done) | exact Nat.le_of_ble_eq_true rfl) rfl ?_
          refine J.nil ?_
          refine JQ.block_normal (JQ.next hK11 ?_)
          refine JC.region ?_
          refine J.yl (y_move rfl rfl) rfl rfl rfl ?_
          refine J.yl (y_add64 rfl rfl rfl (by omega)) rfl rfl rfl ?_
          refine J.yl (y_assign rfl rfl) rfl rfl rfl ?_
          refine J.nil ?_
          refine againK8 (n + 1, comp v m, wl m 64) _ ⟨by dsimp only; omega, length_wl _ _, hbl2⟩ (by dsimp only; omega) (okE_cons (slotI (by dsimp only; omega)) okE_nil) (okE_cons rfl (okE_cons rfl (okE_cons rfl (okE_cons rfl (okE_cons rfl okE_nil)))))
  · have hn3 : 64 * n = (padded s).length := by omega
    have hvv : v = bls ((padded s).length / 64) v0 (padded s) := by
      rw [← hbl, show (padded s).length / 64 - n = 0 by omega]; rfl
    subst hvv
    refine JC.exit ?_
    refine JQ.then_exit (JQ.then_exit (JQ.block_hit (JQ.next hK6 ?_)))
    refine JC.seq fun K35 hK35 => ?_
    refine JC.region ?_
    refine J.alloc rfl rfl rfl rfl Tb.zz30 rfl fun g24 => ?_
    refine J.nil ?_
    refine JQ.next hK35 ?_
    refine JC.seq fun K36 hK36 => ?_
    refine JC.seq fun K37 hK37 => ?_
    refine JC.region ?_
    refine J.yl (y_assign rfl rfl) rfl rfl rfl ?_
    refine J.nil ?_
    refine JQ.next hK37 ?_
    refine JC.block ?_
    generalize hv' : bls ((padded s).length / 64) v0 (padded s) = v
    refine JC.loopE (σ := Nat) (M := fun i => [(25, .int .i64 (i : Int))]) (kp := [(2, _), (4, _), (24, _)]) (hkp := (okE_cons rfl (okE_cons rfl (okE_cons rfl okE_nil)))) (Dc := fun i => [.box g24 30 (((out v).take i ++ List.replicate (32 - i) 0).map u8), .box g6 203 (ws.map u32), .fro (.slice A (padded s).length kc) 5 (padded s).length ((padded s).map u8), .box g4 204 (vc v), .box g3 203 (kk.map u32), .box g2 30 (hc H.zero)]) (H := fun _ => F) (Ψ := fun i => i ≤ 32) (μ := fun i => 32 - i) 0 (by omega) (okE_cons rfl okE_nil) (fun w h => h) (fun i hi K38 againK38 => ?_)
    refine JC.seq fun K39 hK39 => ?_
    refine JC.seq fun K40 hK40 => ?_
    refine JC.region ?_
    refine J.yl (y_move rfl rfl) rfl rfl rfl ?_
    refine J.yl (y_lt rfl rfl rfl) rfl rfl rfl ?_
    refine J.nil ?_
    refine JQ.next hK40 ?_
    refine JC.condp rfl (fun h7 => ?_) (fun h7 => ?_)
    · refine JC.skip ?_
      refine JQ.next hK39 ?_
      refine JC.seq fun K41 hK41 => ?_
      refine JC.block ?_
      refine JC.region ?_
      refine J.yl (y_move rfl rfl) rfl rfl rfl ?_
      refine J.yl (y_move rfl rfl) rfl rfl rfl ?_
      refine J.yl (y_quo64 rfl rfl rfl (by omega)) rfl rfl rfl ?_
      refine J.yl (y_ib1 (i / 4) rfl Tryd.underlying204 Tb.sz202 rfl rfl (by omega) (by omega)) rfl rfl rfl ?_
      refine J.yl (y_lb 3 rfl Tb.ag202 rfl rfl (l_get v (i / 4) (by omega))) rfl rfl rfl ?_
      refine J.yl (y_move rfl rfl) rfl rfl rfl ?_
      refine J.yl (y_rem64 rfl rfl rfl (by omega)) rfl rfl rfl ?_
      refine J.yl (y_mul64 rfl rfl rfl (by omega)) rfl rfl rfl ?_
      refine J.yl (y_sub64 rfl rfl rfl (by omega)) rfl rfl rfl ?_
      refine J.yl (y_shr32N (24 - 8 * (i % 4)) rfl rfl rfl (by omega) (by omega)) rfl rfl rfl ?_
      refine J.yl (y_32to8 rfl (isS Tryd.underlying202) Tryd.underlying5 rfl) rfl rfl rfl ?_
      refine J.yl (y_ib1 i rfl Tryd.underlying30 Tb.sz5 rfl rfl rfl (by omega)) rfl rfl rfl ?_
      refine J.store1c (cs' := ((out v).take (i + 1) ++ List.replicate (32 - (i + 1)) 0).map u8) 0 rfl rfl rfl rfl rfl rfl rfl Tb.sz5 rfl (by simp [length_out]; omega) (take_set_cells (out v) 32 i _ (length_out v) (by omega) (out_get v i (by omega))) ?_
      refine J.nil ?_
      refine JQ.block_normal (JQ.next hK41 ?_)
      refine JC.region ?_
      refine J.yl (y_move rfl rfl) rfl rfl rfl ?_
      refine J.yl (y_add64 rfl rfl rfl (by omega)) rfl rfl rfl ?_
      refine J.yl (y_assign rfl rfl) rfl rfl rfl ?_
      refine J.nil ?_
      refine againK38 (i + 1) _ (by omega) (by omega) (okE_cons rfl okE_nil) (okE_cons rfl (okE_cons rfl (okE_cons rfl okE_nil)))
    · obtain rfl : i = 32 := by omega
      have he : ((out v).take 32 ++ List.replicate (32 - 32) 0).map u8 = hc ⟨out v, length_out v⟩ := by
        rw [List.take_of_length_le (by rw [length_out]; exact Nat.le_refl _)]; simp [hc]
      rw [he]
      have hsha : sha s = ⟨out v, length_out v⟩ := by subst hv'; rfl
      refine JC.exit ?_
      refine JQ.then_exit (JQ.then_exit (JQ.block_hit (JQ.next hK36 ?_)))
      refine JC.seq fun K42 hK42 => ?_
      refine JC.region ?_
      refine J.yl (y_lbW 0 rfl Tb.ag30 Tb.sz30 (hcl _) rfl rfl) rfl rfl rfl ?_
      refine J.storeW 5 rfl rfl rfl rfl rfl rfl rfl Tb.sz30 (hcl _) (hcl _) (hc1 _) ?_
      refine J.nil ?_
      refine JQ.next hK42 ?_
      refine JC.ret ?_
      exact ret1 rfl (r_cellA 5 rfl rfl Tb.ag30 (by rw [hcl]; exact Tb.sz30)) fun w hs => by rw [hsha]; exact Post.pure hs
end Go.Proofs.YtjkfeonbioccmaaDoor
namespace Go.Sx
open Go Go.RowKit
set_option linter.unusedVariables false
set_option linter.unusedSimpArgs false

def leaf (s : List UInt8) : H := sha (0 :: s)
def node (a b : H) : H := sha (1 :: (a.b ++ b.b))
/-- The greatest power of two below n. -/
def split (n : Nat) : Nat := if n < 2 then 0 else 2 ^ Nat.log2 (n - 1)
theorem split_small {n : Nat} (h : n < 2) : split n = 0 := if_pos h
theorem split_spec {n : Nat} (h : 2 ≤ n) : 0 < split n ∧ split n < n ∧ n ≤ 2 * split n := by
  have h1 : split n = 2 ^ Nat.log2 (n - 1) := if_neg (by omega)
  have h2 : 2 ^ Nat.log2 (n - 1) ≤ n - 1 := Nat.log2_self_le (by omega)
  have h3 : n - 1 < 2 ^ (Nat.log2 (n - 1) + 1) := Nat.lt_log2_self
  rw [Nat.pow_succ] at h3
  rw [h1]
  refine ⟨Nat.pow_pos (by decide), by omega, by omega⟩
theorem pow_uniq {i j n : Nat} (h1 : 2 ^ i < n) (h2 : n ≤ 2 * 2 ^ i) (h3 : 2 ^ j < n) (h4 : n ≤ 2 * 2 ^ j) : i = j := by
  have key : ∀ i j, 2 ^ i < n → n ≤ 2 * 2 ^ j → i ≤ j := fun i j a b => by
    have h5 : 2 ^ i < 2 ^ (j + 1) := by rw [Nat.pow_succ]; omega
    have := (Nat.pow_lt_pow_iff_right (show 1 < 2 by decide)).1 h5
    omega
  exact Nat.le_antisymm (key i j h1 h4) (key j i h3 h2)
theorem split_uniq {n k : Nat} (hp : ∃ j, k = 2 ^ j) (h1 : k < n) (h2 : n ≤ 2 * k) : k = split n := by
  obtain ⟨j, rfl⟩ := hp
  have h0 : 0 < 2 ^ j := Nat.pow_pos (by decide)
  have hs := split_spec (show 2 ≤ n by omega)
  have h3 : split n = 2 ^ Nat.log2 (n - 1) := if_neg (by omega)
  rw [h3] at hs ⊢
  rw [pow_uniq h1 h2 hs.2.1 hs.2.2]
theorem split_pow {n : Nat} (h : 2 ≤ n) : ∃ j, split n = 2 ^ j := ⟨_, if_neg (by omega)⟩

def rootF : Nat → List H → H
  | 0, l => match l with
    | [] => sha []
    | x :: _ => x
  | f + 1, l => match l with
    | [] => sha []
    | [x] => x
    | _ => node (rootF f (l.take (split l.length))) (rootF f (l.drop (split l.length)))
def root (l : List H) : H := rootF l.length l
theorem root_nil : root [] = sha [] := rfl
theorem root_one (x : H) : root [x] = x := rfl
theorem rootF_step (f : Nat) (l : List H) (h : 2 ≤ l.length) : rootF (f + 1) l = node (rootF f (l.take (split l.length))) (rootF f (l.drop (split l.length))) := by
  match l, h with
  | x :: y :: r, _ => rfl
theorem rootF_eq : ∀ (f g : Nat) (l : List H), l.length ≤ f + 1 → l.length ≤ g + 1 → rootF f l = rootF g l := by
  intro f
  induction f with
  | zero =>
    intro g l hf hg
    match l, hf with
    | [], _ => cases g <;> rfl
    | [x], _ => cases g <;> rfl
  | succ f ih =>
    intro g l hf hg
    cases g with
    | zero =>
      match l, hg with
      | [], _ => rfl
      | [x], _ => rfl
    | succ g =>
      rcases Nat.lt_or_ge l.length 2 with h | h
      · match l, h with
        | [], _ => rfl
        | [x], _ => rfl
      · have hs := split_spec h
        rw [rootF_step f l h, rootF_step g l h, ih g _ (by rw [List.length_take]; omega) (by rw [List.length_take]; omega), ih g _ (by rw [List.length_drop]; omega) (by rw [List.length_drop]; omega)]
theorem root_two (l : List H) (h : 2 ≤ l.length) : root l = node (root (l.take (split l.length))) (root (l.drop (split l.length))) := by
  have hs := split_spec h
  obtain ⟨f, hf⟩ : ∃ f, l.length = f + 1 := ⟨l.length - 1, by omega⟩
  unfold root
  rw [hf, rootF_step f l h, ← hf, rootF_eq f (l.take (split l.length)).length _ (by rw [List.length_take]; omega) (by omega), rootF_eq f (l.drop (split l.length)).length _ (by rw [List.length_drop]; omega) (by omega)]

theorem bytes_take (l : List UInt8) {i : Nat} (h : i < l.length) : (l.take i).map u8 ++ [u8 (l.getD i 0)] = (l.take (i + 1)).map u8 := by
  rw [List.take_add_one, List.getElem?_eq_getElem h, List.getD_eq_getElem?_getD, List.getElem?_eq_getElem h, List.map_append]
  rfl
theorem bytes_get (l : List UInt8) {i : Nat} (h : i < l.length) : (l.map u8)[i]? = some (u8 (l.getD i 0)) := by
  have := get_bytes h
  rwa [Nat.mul_one] at this
/-- The leaves that the statements make. -/
def someH (seed : UInt8) (i : Nat) : H := ⟨[seed, UInt8.ofNat i, UInt8.ofNat (i / 256), 1] ++ List.replicate 28 0, rfl⟩
def someL (n : Nat) (seed : UInt8) : List H := (List.range n).map (someH seed)
theorem someL_succ (n : Nat) (seed : UInt8) : someL (n + 1) seed = someL n seed ++ [someH seed n] := by
  simp [someL, List.range_succ]
theorem length_someL (n : Nat) (seed : UInt8) : (someL n seed).length = n := by simp [someL]
theorem fillH (a b c d : UInt8) : Instr.fill (fun i => some (i * 1, 1)) (hc H.zero).toArray [(0, u8 a), (1, u8 b), (2, u8 c), (3, u8 d)] = some (hc ⟨[a, b, c, d] ++ List.replicate 28 0, rfl⟩).toArray := by
  rw [fill_one (vs := [u8 a]) (off := 0) rfl rfl (Nat.le_of_ble_eq_true rfl), fill_one (vs := [u8 b]) (off := 1) rfl rfl (Nat.le_of_ble_eq_true rfl), fill_one (vs := [u8 c]) (off := 2) rfl rfl (Nat.le_of_ble_eq_true rfl), fill_one (vs := [u8 d]) (off := 3) rfl rfl (Nat.le_of_ble_eq_true rfl), Instr.fill]
  rfl
/-! ### slices of hashes -/
theorem Sl.htake {w : World} {A : Option Addr} {l : List H} (h : Sl w A (hcs l)) (j : Nat) : Sl w A (hcs (l.take j)) :=
  h.take (by
    rw [length_hcs, hcs_take, List.length_take]
    congr 1
    rcases Nat.le_total j l.length with h1 | h1
    · rw [Nat.min_eq_left h1]
    · rw [Nat.min_eq_right h1, List.take_of_length_le (Nat.le_refl _), List.take_of_length_le h1])
theorem Sl.hdrop {w : World} {A : Option Addr} {l : List H} (h : Sl w A (hcs l)) (j cap : Nat) (hc : l.length ≤ cap) (hj : j ≤ l.length) : Sl w (cutA A cap j 32) (hcs (l.drop j)) :=
  h.cut (n := l.length) (length_hcs l) hc hj (by rw [hcs_drop, length_hcs, ← length_hcs, List.take_of_length_le (Nat.le_refl _)])
section
variable {c : Cx} {tm : Env} {C : List Chunk} {F : World → Prop} {o : Oper} {x y z : Operand} {t t' e : TypeId}
theorem hcs_ne {l : List H} {j : Nat} (h : j < l.length) : hcs l ≠ [] := by
  intro h0
  have := congrArg List.length h0
  rw [length_hcs, List.length_nil] at this
  omega
theorem y_ito8 {k : IntKind} {a : Int} (n : Nat) (ho : o.op = .convert t t' x) (hs : (c.P.underlying t).isSome = true) (hd : c.P.underlying t' = some (.int .u8)) (hx : ev tm x = some (.int k a)) (hn : a = n) : Yl c tm C F o (u8 (UInt8.ofNat n)) :=
  y_conv ho hs hd hx (by subst hn; rw [IntKind.wrap_u8, UInt8.toNat_ofNat']; omega)
theorem cell_box {w : World} {g off : Nat} {t : TypeId} {cs : List Value} {v : Value} (h : (Chunk.box g t cs).sat w) (hv : cs[off]? = some v) : w.cell? ⟨g, off, none⟩ = some v := by
  have hh : w.heap[g]? = some (.cells cs.toArray t (0, 0)) := h
  rw [cell_of_row w g off _ t _ hh]
  simpa using hv
theorem y_funcE {fn : Fn} {fs cs : Array Operand} {vs : List Value} (ho : o.op = .makeFunc fn fs cs) (hf : fs = #[]) (hx : evs tm cs.toList = some vs) : Yl c tm C F o (.func fn #[] vs.toArray) :=
  y_func ho hf fun a ha => by
    apply Array.ext'
    simpa using ha.evs hx
theorem take_drop_take (l : List H) (a b c : Nat) (h : a + b ≤ c) : ((l.take c).drop a).take b = (l.take (a + b)).drop a := by
  rw [List.take_drop, List.take_take, Nat.min_eq_left h]
/-- The address of a hash in a slice; the hash itself. -/
theorem y_hidx {A : Option Addr} {n cap : Nat} {k : IntKind} {a : Int} {l : List H} (j : Nat) (ho : o.op = .indexAddr t x y) (ht : c.P.underlying t = some (.slice e)) (hz : szO c.P e = some 32) (hx : ev tm x = some (.slice A n cap)) (hy : ev tm y = some (.int k a)) (hj : a = j)
    (hn : l.length = n) (h : j < n) (hA : ∀ w, St c w C F → Sl w A (hcs l)) : Yl c tm C F o (.pointer (some ((gA A).add (j * 32)))) :=
  y_idxN j ho ht hz hx hy hj h fun w hs => (hA w hs).some_ (hcs_ne (l := l) (j := j) (by omega))
theorem y_hld {A : Option Addr} {j : Nat} {l : List H} (h : H) (ho : o.op = .load t x) (hg : aggO c.P t = some true) (hs : szO c.P t = some 32) (hx : ev tm x = some (.pointer (some ((gA A).add (j * 32))))) (hj : l[j]? = some h) (hA : ∀ w, St c w C F → Sl w A (hcs l)) : Yl c tm C F o (hv h) :=
  y_lslA ho hg (by rw [hcl]; exact hs) hx hA (by rw [hcl]; exact hcs_get l j h hj) (by intro h0; have := congrArg List.length h0; rw [hcl] at this; cases this)
end
end Go.Sx
