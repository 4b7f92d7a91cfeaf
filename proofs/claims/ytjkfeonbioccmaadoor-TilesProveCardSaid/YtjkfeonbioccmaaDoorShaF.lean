/- Speculum proofs: contracts of the hash's functions. -/
import Derived.Test.YtjkfeonbioccmaaDoorTb
import Derived.Test.YtjkfeonbioccmaaDoorSha
import Derived.Test.YtjkfeonbioccmaaDoorShelf
namespace Go.Proofs.YtjkfeonbioccmaaDoor
open Go Go.Sx Go.RowKit
set_option linter.unusedVariables false
set_option linter.unusedSimpArgs false
set_option maxRecDepth 100000
set_option maxHeartbeats 4000000
variable {Gl F : World → Prop}

theorem neg31 (k : Nat) (h : 0 < k ∧ k < 32) : IntKind.u64.wrap ((BitVec.ofInt IntKind.u64.bits (IntKind.u64.wrap (-((k : Int) % 32))) &&& BitVec.ofInt IntKind.u64.bits 31).toNat) = ((32 - k : Nat) : Int) := by
  have : ∀ k : Fin 32, 0 < k.val → IntKind.u64.wrap ((BitVec.ofInt 64 (IntKind.u64.wrap (-((k.val : Int) % 32))) &&& BitVec.ofInt 64 31).toNat) = ((32 - k.val : Nat) : Int) := by decide
  exact this ⟨k, h.2⟩ h.1
theorem rol_spec (x : UInt32) (k : Nat) (h : 0 < k ∧ k < 32) : PureFn Tryd.prog Gl 218 [u32 x, .int .i64 (-((k : Int) % 32))] F (u32 (rotr x k)) := by
  refine FnSpec.intro Tryd.func218 rfl Tryd.ntmps218 rfl fun X M w => ?_
  refine JC.seq fun K1 hK1 => ?_
  refine JC.region ?_
  refine J.yl (y_assign rfl rfl) rfl rfl rfl ?_
  refine J.nil ?_
  refine JQ.next hK1 ?_
  refine JC.seq fun K2 hK2 => ?_
  refine JC.region ?_
  refine J.yl (y_move rfl rfl) rfl rfl rfl ?_
  refine J.yl (y_conv rfl (isS Tryd.underlying3) Tryd.underlying207 rfl rfl) rfl rfl rfl ?_
  refine J.yl (y_and rfl rfl rfl (neg31 k h)) rfl rfl rfl ?_
  refine J.yl (y_assign rfl rfl) rfl rfl rfl ?_
  refine J.nil ?_
  refine JQ.next hK2 ?_
  refine JC.seq fun K3 hK3 => ?_
  refine JC.region ?_
  refine J.yl (y_move rfl rfl) rfl rfl rfl ?_
  refine J.yl (y_move rfl rfl) rfl rfl rfl ?_
  refine J.yl (y_shl32 (n := 32 - k) rfl rfl rfl (by omega)) rfl rfl rfl ?_
  refine J.yl (y_move rfl rfl) rfl rfl rfl ?_
  refine J.yl (y_move rfl rfl) rfl rfl rfl ?_
  refine J.yl (y_sub (r := ((k : Nat) : Int)) rfl rfl rfl (by rw [IntKind.wrap_u64]; omega)) rfl rfl rfl ?_
  refine J.yl (y_shr32 (n := k) rfl rfl rfl (by omega)) rfl rfl rfl ?_
  refine J.yl (y_or32 rfl rfl rfl) rfl rfl rfl ?_
  refine J.yl (y_assign rfl rfl) rfl rfl rfl ?_
  refine J.nil ?_
  refine JQ.next hK3 ?_
  refine JC.ret ?_
  exact ret1 rfl (r_tmp rfl) fun w hs => Post.pure hs
theorem right_spec (x : UInt32) (k : Nat) (h : 0 < k ∧ k < 32) : PureFn Tryd.prog Gl 196 [u32 x, .int .i64 (k : Int)] F (u32 (rotr x k)) := by
  refine FnSpec.intro Tryd.func196 rfl Tryd.ntmps196 rfl fun X M w => ?_
  refine JC.seq fun K1 hK1 => ?_
  refine JC.region ?_
  refine J.yl (y_assign rfl rfl) rfl rfl rfl ?_
  refine J.nil ?_
  refine JQ.next hK1 ?_
  refine JC.seq fun K2 hK2 => ?_
  refine JC.region ?_
  refine J.yl (y_move rfl rfl) rfl rfl rfl ?_
  refine J.yl (y_move rfl rfl) rfl rfl rfl ?_
  refine J.yl (y_rem64 rfl rfl rfl (by omega)) rfl rfl rfl ?_
  refine J.yl (y_neg rfl rfl (by omega)) rfl rfl rfl ?_
  refine J.callv rfl rfl rfl rfl Tb.cl218 rfl (rol_spec x k h) ?_
  refine J.yl (y_assign rfl rfl) rfl rfl rfl ?_
  refine J.nil ?_
  refine JQ.next hK2 ?_
  refine JC.ret ?_
  exact ret1 rfl (r_tmp rfl) fun w hs => Post.pure hs
theorem turn_spec (x : UInt32) (k : Nat) (h : 0 < k ∧ k < 32) : PureFn Tryd.prog Gl 162 [u32 x, .int .u32 (k : Int)] F (u32 (rotr x k)) := by
  refine FnSpec.intro Tryd.func162 rfl Tryd.ntmps162 rfl fun X M w => ?_
  refine JC.seq fun K1 hK1 => ?_
  refine JC.region ?_
  refine J.yl (y_assign rfl rfl) rfl rfl rfl ?_
  refine J.nil ?_
  refine JQ.next hK1 ?_
  refine JC.seq fun K2 hK2 => ?_
  refine JC.region ?_
  refine J.yl (y_move rfl rfl) rfl rfl rfl ?_
  refine J.yl (y_move rfl rfl) rfl rfl rfl ?_
  refine J.yl (y_shr32 (n := k) rfl rfl rfl (by omega)) rfl rfl rfl ?_
  refine J.yl (y_move rfl rfl) rfl rfl rfl ?_
  refine J.yl (y_move rfl rfl) rfl rfl rfl ?_
  refine J.yl (y_sub (r := ((32 - k : Nat) : Int)) rfl rfl rfl (by rw [IntKind.wrap_u32]; omega)) rfl rfl rfl ?_
  refine J.yl (y_shl32 (n := 32 - k) rfl rfl rfl (by omega)) rfl rfl rfl ?_
  refine J.yl (y_or32 rfl rfl rfl) rfl rfl rfl ?_
  refine J.yl (y_assign rfl rfl) rfl rfl rfl ?_
  refine J.nil ?_
  refine JQ.next hK2 ?_
  refine JC.ret ?_
  exact ret1 rfl (r_tmp rfl) fun w hs => by rw [rotr_alt]; exact Post.pure hs
theorem get_spec (l : List UInt8) (hl : l.length ≤ 8) : PureFn Tryd.prog Gl 217 [str l] F (u64 (getB l)) := by
  refine FnSpec.intro Tryd.func217 rfl Tryd.ntmps217 rfl fun X M w => ?_
  refine JC.seq fun K1 hK1 => ?_
  refine JC.region ?_
  refine J.yl (y_assign rfl rfl) rfl rfl rfl ?_
  refine J.nil ?_
  refine JQ.next hK1 ?_
  refine JC.seq fun K2 hK2 => ?_
  refine JC.region ?_
  refine J.yl (y_assign rfl rfl) rfl rfl rfl ?_
  refine J.nil ?_
  refine JQ.next hK2 ?_
  refine JC.seq fun K3 hK3 => ?_
  refine JC.seq fun K4 hK4 => ?_
  refine JC.region ?_
  refine J.yl (y_move rfl rfl) rfl rfl rfl ?_
  refine J.yl (y_slen (ty := 0) rfl Tryd.underlying9 rfl) rfl rfl rfl ?_
  refine J.yl (y_min rfl rfl rfl) rfl rfl rfl ?_
  refine J.yl (y_move rfl rfl) rfl rfl rfl ?_
  refine J.nil ?_
  refine JQ.next hK4 ?_
  refine JC.block ?_
  refine JC.loopE (σ := Nat) (M := fun i => [(8, .int .i64 (i : Int)), (3, u64 (getB (l.take i)))]) (kp := [(0, _), (7, _)]) (hkp := (okE_cons rfl (okE_cons rfl okE_nil))) (Dc := fun _ => []) (H := fun _ => F) (Ψ := fun i => i ≤ l.length) (μ := fun i => l.length - i) 0 (by omega) (okE_cons rfl (okE_cons rfl okE_nil)) (fun w h => h) (fun i hi K5 againK5 => ?_)
  refine JC.seq fun K6 hK6 => ?_
  refine JC.region ?_
  refine J.yl (y_lt rfl rfl rfl) rfl rfl rfl ?_
  refine J.nil ?_
  refine JQ.next hK6 ?_
  refine JC.seq fun K7 hK7 => ?_
  refine JC.condp rfl (fun h1 => ?_) (fun h1 => ?_)
  · refine JC.skip ?_
    refine JQ.next hK7 ?_
    refine JC.seq fun K8 hK8 => ?_
    refine JC.block ?_
    refine JC.seq fun K9 hK9 => ?_
    refine JC.region ?_
    refine J.yl (y_move rfl rfl) rfl rfl rfl ?_
    refine J.yl (y_assign rfl rfl) rfl rfl rfl ?_
    refine J.nil ?_
    refine JQ.next hK9 ?_
    refine JC.region ?_
    refine J.yl (y_move rfl rfl) rfl rfl rfl ?_
    refine J.yl (y_shl_u64 (n := 8) rfl rfl rfl (by decide)) rfl rfl rfl ?_
    refine J.yl (y_move rfl rfl) rfl rfl rfl ?_
    refine J.yl (y_move rfl rfl) rfl rfl rfl ?_
    refine J.yl (y_schar i rfl Tryd.underlying9 rfl rfl rfl (by omega)) rfl rfl rfl ?_
    refine J.yl (y_8to64 rfl (isS Tryd.underlying5) Tryd.underlying212 rfl) rfl rfl rfl ?_
    refine J.yl (y_add_u64 rfl rfl rfl) rfl rfl rfl ?_
    refine J.yl (y_assign rfl rfl) rfl rfl rfl ?_
    refine J.nil ?_
    refine JQ.block_normal (JQ.next hK8 ?_)
    refine JC.region ?_
    refine J.yl (y_add64 rfl rfl rfl (by omega)) rfl rfl rfl ?_
    refine J.yl (y_move rfl rfl) rfl rfl rfl ?_
    refine J.nil ?_
    have hb := getB_succ l (show i < l.length by omega)
    refine againK5 (i + 1) _ (by omega) (by omega) (okE_cons rfl (okE_cons (congrArg (fun q => some (u64 q)) hb.symm) okE_nil)) (okE_cons rfl (okE_cons rfl okE_nil))
  · refine JC.exit ?_
    refine JQ.then_exit (JQ.then_exit (JQ.block_hit (JQ.next hK3 ?_)))
    refine JC.seq fun K10 hK10 => ?_
    refine JC.region ?_
    refine J.yl (y_move rfl rfl) rfl rfl rfl ?_
    refine J.yl (y_assign rfl rfl) rfl rfl rfl ?_
    refine J.nil ?_
    refine JQ.next hK10 ?_
    refine JC.ret ?_
    have hi' : l.take i = l := List.take_of_length_le (by omega)
    rw [hi']
    exact ret1 rfl (r_tmp rfl) fun w hs => Post.pure hs
theorem put_spec (n : UInt64) (k : Nat) (hk : 1 ≤ k ∧ k ≤ 8) : PureFn Tryd.prog Gl 165 [u64 n, .int .i64 (k : Int)] F (str (putB n k)) := by
  refine FnSpec.intro Tryd.func165 rfl Tryd.ntmps165 rfl fun X M w => ?_
  refine JC.seq fun K1 hK1 => ?_
  refine JC.region ?_
  refine J.yl (y_assign rfl rfl) rfl rfl rfl ?_
  refine J.nil ?_
  refine JQ.next hK1 ?_
  refine JC.seq fun K2 hK2 => ?_
  refine JC.seq fun K3 hK3 => ?_
  refine JC.region ?_
  refine J.yl (y_move rfl rfl) rfl rfl rfl ?_
  refine J.ylp (y_lt rfl rfl rfl) rfl rfl rfl (fun h1 => ?_) (fun h1 => ?_)
  · omega
  refine J.yl (y_move rfl rfl) rfl rfl rfl ?_
  refine J.gyes (y_move rfl rfl) rfl rfl rfl rfl rfl rfl ?_
  refine J.gyes (y_gt rfl rfl rfl) rfl rfl rfl rfl rfl rfl ?_
  refine J.yl (y_pick rfl rfl (fun h => by cases h) (fun _ => rfl)) rfl rfl rfl ?_
  refine J.nil ?_
  refine JQ.next hK3 ?_
  refine JC.condp rfl (fun h2 => ?_) (fun h2 => ?_)
  · omega
  refine JC.skip ?_
  refine JQ.next hK2 ?_
  refine JC.seq fun K4 hK4 => ?_
  refine JC.region ?_
  refine J.yl (y_move rfl rfl) rfl rfl rfl ?_
  refine J.makeN k (xs := (List.replicate (k - 0) 0 ++ putB n 0).map u8) rfl rfl rfl rfl rfl rfl Tryd.underlying205 Tb.zz5 Tb.sz5 Tb.by5 rfl rfl rfl (by omega) (by decide) (by rw [rep_one]; simp [putB, u8]) fun g => ?_
  refine J.yl (y_assign rfl rfl) rfl rfl rfl ?_
  refine J.nil ?_
  refine JQ.next hK4 ?_
  refine JC.seq fun K5 hK5 => ?_
  refine JC.seq fun K6 hK6 => ?_
  refine JC.region ?_
  refine J.yl (y_move rfl rfl) rfl rfl rfl ?_
  refine J.yl (y_move rfl rfl) rfl rfl rfl ?_
  refine J.nil ?_
  refine JQ.next hK6 ?_
  refine JC.block ?_
  refine JC.loopE (σ := Nat × UInt64) (M := fun s => [(16, .int .i64 (s.1 : Int)), (0, u64 s.2)]) (kp := [(1, _), (5, _), (15, _)]) (hkp := (okE_cons rfl (okE_cons rfl (okE_cons rfl okE_nil)))) (Dc := fun s => [.row (.slice (some ⟨g, 0, none⟩) k k) 5 1 k ((List.replicate (k - s.1) 0 ++ putB n s.1).map u8)]) (H := fun _ => F) (Ψ := fun s => s.1 ≤ k ∧ (s.1 < k → s.2 = n >>> UInt64.ofNat (8 * s.1))) (μ := fun s => k - s.1) (0, n) ⟨by omega, fun _ => by simp⟩ (okE_cons rfl (okE_cons rfl okE_nil)) (fun w h => h) (fun sK7 hK7 K7 againK7 => ?_)
  obtain ⟨i, nv⟩ := sK7
  dsimp only at hK7 againK7 ⊢
  obtain ⟨hi, hnv⟩ := hK7
  refine JC.seq fun K8 hK8 => ?_
  refine JC.region ?_
  refine J.yl (y_lt rfl rfl rfl) rfl rfl rfl ?_
  refine J.nil ?_
  refine JQ.next hK8 ?_
  refine JC.seq fun K9 hK9 => ?_
  refine JC.condp rfl (fun h3 => ?_) (fun h3 => ?_)
  · refine JC.skip ?_
    refine JQ.next hK9 ?_
    refine JC.seq fun K10 hK10 => ?_
    refine JC.block ?_
    refine JC.seq fun K11 hK11 => ?_
    refine JC.region ?_
    refine J.yl (y_move rfl rfl) rfl rfl rfl ?_
    refine J.yl (y_assign rfl rfl) rfl rfl rfl ?_
    refine J.nil ?_
    refine JQ.next hK11 ?_
    refine JC.seq fun K12 hK12 => ?_
    refine JC.region ?_
    refine J.yl (y_move rfl rfl) rfl rfl rfl ?_
    refine J.yl (y_move rfl rfl) rfl rfl rfl ?_
    refine J.yl (y_sub64 rfl rfl rfl (by omega)) rfl rfl rfl ?_
    refine J.yl (y_move rfl rfl) rfl rfl rfl ?_
    refine J.yl (y_sub64 rfl rfl rfl (by omega)) rfl rfl rfl ?_
    refine J.yl (y_move rfl rfl) rfl rfl rfl ?_
    refine J.yl (y_64to8 rfl (isS Tryd.underlying212) Tryd.underlying5 rfl) rfl rfl rfl ?_
    refine J.yl (y_idxN (k - 1 - i) rfl Tryd.underlying205 Tb.sz5 rfl rfl (by omega) (by omega) (fun w hs => rfl)) rfl rfl rfl ?_
    have hn' := hnv (by omega)
    subst hn'
    refine J.storeR (vs := [u8 _]) (xs' := (List.replicate (k - (i + 1)) 0 ++ putB n (i + 1)).map u8) 0 rfl rfl rfl rfl rfl rfl rfl Tb.sz5 (by simp [length_putB]; omega) (by simp) (one1 rfl) (by rw [Nat.mul_one]; exact put_spl n k i (by omega)) ?_
    refine J.nil ?_
    refine JQ.next hK12 ?_
    refine JC.region ?_
    refine J.yl (y_move rfl rfl) rfl rfl rfl ?_
    refine J.yl (y_shr_u64 (n := 8) rfl rfl rfl (by decide)) rfl rfl rfl ?_
    refine J.yl (y_assign rfl rfl) rfl rfl rfl ?_
    refine J.nil ?_
    refine JQ.block_normal (JQ.next hK10 ?_)
    refine JC.region ?_
    refine J.yl (y_add64 rfl rfl rfl (by omega)) rfl rfl rfl ?_
    refine J.yl (y_move rfl rfl) rfl rfl rfl ?_
    refine J.nil ?_
    refine againK7 (i + 1, n >>> UInt64.ofNat (8 * i) >>> UInt64.ofNat 8) _ ⟨by dsimp only; omega, fun h => shr_shr n i (by dsimp only at h; omega)⟩ (by dsimp only; omega) (okE_cons rfl (okE_cons rfl okE_nil)) (okE_cons rfl (okE_cons rfl (okE_cons rfl okE_nil)))
  · refine JC.exit ?_
    refine JQ.then_exit (JQ.then_exit (JQ.block_hit (JQ.next hK5 ?_)))
    refine JC.seq fun K13 hK13 => ?_
    refine JC.region ?_
    refine J.yl (y_move rfl rfl) rfl rfl rfl ?_
    obtain rfl : i = k := by omega
    refine J.yl (y_b2sN (bs := putB n i) rfl Tryd.underlying205 Tryd.underlying5 Tryd.underlying9 rfl (length_putB n i) (fun w hs => by have := Sl.of_row (hs.get (i := 0) rfl); simpa using this)) rfl rfl rfl ?_
    refine J.yl (y_assign rfl rfl) rfl rfl rfl ?_
    refine J.nil ?_
    refine JQ.next hK13 ?_
    refine JC.ret ?_
    exact ret1 rfl (r_tmp rfl) fun w hs => Post.pure hs

theorem PureFn.of_below {P : Program} {f : FuncId} {args : List Value} {v : Value} (h : ∀ w, Calls P f args.toArray w fun e w' => e = .returned v ∧ Below w.heap.size w w') : PureFn P Gl f args F v := fun n X M w hst =>
  (h w).mono fun e w' ⟨he, hb⟩ => ⟨(), trivial, he, ⟨hb.os, hb.tape, hb.output, hb.size, fun k hk _ => hb.block k hk⟩, by simp, by simp, by simp [Apart], fun _ _ => trivial⟩
theorem repeatL_one (b : UInt8) (k : Nat) : Lib.repeatL [b] k = List.replicate k b := by
  induction k with
  | zero => rfl
  | succ k ih => rw [Lib.repeatL, ih]; rfl
theorem rep_spec (b : UInt8) (k : Nat) (a : Int) (ha : a = k) (hk : k ≤ 1000) : PureFn Tryd.prog Gl 194 [str [b], .int .i64 a] F (str (List.replicate k b)) := by
  subst ha
  refine PureFn.of_below fun w => ?_
  have h := Tryd.strings_Repeat ⟨#[b]⟩ k w (by omega) (by show 1 * k ≤ _; omega)
  rw [show Lib.repeatL (ByteArray.mk #[b]).data.toList k = List.replicate k b from repeatL_one b k] at h
  exact h
theorem filled_spec (s : List UInt8) (hl : s.length ≤ 1000000000) : PureFn Tryd.prog Gl 163 [str s] F (str (padded s)) := by
  have hp : padN s.length < 64 := by unfold padN; omega
  refine FnSpec.intro Tryd.func163 rfl Tryd.ntmps163 rfl fun X M w => ?_
  refine JC.seq fun K1 hK1 => ?_
  refine JC.region ?_
  refine J.yl (y_assign rfl rfl) rfl rfl rfl ?_
  refine J.nil ?_
  refine JQ.next hK1 ?_
  refine JC.seq fun K2 hK2 => ?_
  refine JC.region ?_
  refine J.yl (y_move rfl rfl) rfl rfl rfl ?_
  refine J.yl (y_slen (ty := 0) rfl Tryd.underlying9 rfl) rfl rfl rfl ?_
  refine J.yl (y_rem64 rfl rfl rfl (by omega)) rfl rfl rfl ?_
  refine J.yl (y_sub64 rfl rfl rfl (by omega)) rfl rfl rfl ?_
  refine J.yl (y_rem64 rfl rfl rfl (by omega)) rfl rfl rfl ?_
  refine J.yl (y_assign rfl rfl) rfl rfl rfl ?_
  refine J.nil ?_
  refine JQ.next hK2 ?_
  refine JC.seq fun K3 hK3 => ?_
  refine JC.region ?_
  refine J.yl (y_move rfl rfl) rfl rfl rfl ?_
  refine J.yl (y_sadd (b := [128]) rfl rfl rfl (by simp only [List.length_append, List.length_cons, List.length_nil, H.l, List.length_replicate, length_putB]; omega)) rfl rfl rfl ?_
  refine J.yl (y_move rfl rfl) rfl rfl rfl ?_
  refine J.callv rfl rfl rfl rfl Tb.cl194 rfl (rep_spec 0 (padN s.length) _ (by unfold padN; omega) (by unfold padN; omega)) ?_
  refine J.yl (y_sadd rfl rfl rfl (by simp only [List.length_append, List.length_cons, List.length_nil, H.l, List.length_replicate, length_putB]; omega)) rfl rfl rfl ?_
  refine J.yl (y_move rfl rfl) rfl rfl rfl ?_
  refine J.yl (y_slen (ty := 0) rfl Tryd.underlying9 rfl) rfl rfl rfl ?_
  refine J.yl (y_ito64 rfl (isS Tryd.underlying3) Tryd.underlying212 rfl (by omega)) rfl rfl rfl ?_
  refine J.yl (y_mul_u64 (b := 8) rfl rfl rfl) rfl rfl rfl ?_
  refine J.callv rfl rfl rfl rfl Tb.cl165 rfl (put_spec _ 8 (by omega)) ?_
  refine J.yl (y_sadd rfl rfl rfl (by simp only [List.length_append, List.length_cons, List.length_nil, H.l, List.length_replicate, length_putB]; omega)) rfl rfl rfl ?_
  refine J.yl (y_assign rfl rfl) rfl rfl rfl ?_
  refine J.nil ?_
  refine JQ.next hK3 ?_
  refine JC.ret ?_
  exact ret1 rfl (r_tmp rfl) fun w hs => Post.pure hs
theorem spread_spec (m : List UInt8) (hm : m.length = 64) : PureFn Tryd.prog Gl 195 [str m] F (.agg ((wl m 64).map u32).toArray) := by
  refine FnSpec.intro Tryd.func195 rfl Tryd.ntmps195 rfl fun X M w => ?_
  refine JC.seq fun K1 hK1 => ?_
  refine JC.region ?_
  refine J.alloc rfl rfl rfl rfl Tb.zz203 rfl fun g2 => ?_
  refine J.nil ?_
  refine JQ.next hK1 ?_
  refine JC.seq fun K2 hK2 => ?_
  refine JC.seq fun K3 hK3 => ?_
  refine JC.region ?_
  refine J.yl (y_move rfl rfl) rfl rfl rfl ?_
  refine J.nil ?_
  refine JQ.next hK3 ?_
  refine JC.block ?_
  refine JC.loopE (σ := Nat × List UInt32) (M := fun s => [(6, .int .i64 (s.1 : Int))]) (kp := [(0, _), (2, _)]) (hkp := (okE_cons rfl (okE_cons rfl okE_nil))) (Dc := fun s => [.box g2 203 ((wl m s.1 ++ s.2).map u32)]) (H := fun _ => F) (Ψ := fun s => s.1 ≤ 64 ∧ s.2.length = 64 - s.1) (μ := fun s => 64 - s.1) (0, List.replicate 64 0) ⟨by decide, rfl⟩ (okE_cons rfl okE_nil) (fun w h => h) (fun sK4 hK4 K4 againK4 => ?_)
  obtain ⟨i, r⟩ := sK4
  dsimp only at hK4 againK4 ⊢
  obtain ⟨hi, hr⟩ := hK4
  refine JC.seq fun K5 hK5 => ?_
  refine JC.region ?_
  refine J.yl (y_lt rfl rfl rfl) rfl rfl rfl ?_
  refine J.nil ?_
  refine JQ.next hK5 ?_
  refine JC.seq fun K6 hK6 => ?_
  refine JC.condp rfl (fun h3 => ?_) (fun h3 => ?_)
  · refine JC.skip ?_
    refine JQ.next hK6 ?_
    refine JC.seq fun K7 hK7 => ?_
    refine JC.block ?_
    refine JC.seq fun K8 hK8 => ?_
    refine JC.region ?_
    refine J.yl (y_move rfl rfl) rfl rfl rfl ?_
    refine J.yl (y_assign rfl rfl) rfl rfl rfl ?_
    refine J.nil ?_
    refine JQ.next hK8 ?_
    refine JC.seq fun K9 hK9 => ?_
    refine JC.seq fun K10 hK10 => ?_
    refine JC.region ?_
    refine J.yl (y_move rfl rfl) rfl rfl rfl ?_
    refine J.yl (y_lt rfl rfl rfl) rfl rfl rfl ?_
    refine J.nil ?_
    refine JQ.next hK10 ?_
    have hrn : r ≠ [] := by rintro rfl; simp at hr; omega
    refine JC.condp rfl (fun h4 => ?_) (fun h4 => ?_)
    · refine JC.seq fun K11 hK11 => ?_
      refine JC.region ?_
      refine J.yl (y_move rfl rfl) rfl rfl rfl ?_
      refine J.yl (y_move rfl rfl) rfl rfl rfl ?_
      refine J.yl (y_move rfl rfl) rfl rfl rfl ?_
      refine J.yl (y_mul64 rfl rfl rfl (by omega)) rfl rfl rfl ?_
      refine J.yl (y_move rfl rfl) rfl rfl rfl ?_
      refine J.yl (y_mul64 rfl rfl rfl (by omega)) rfl rfl rfl ?_
      refine J.yl (y_add64 rfl rfl rfl (by omega)) rfl rfl rfl ?_
      refine J.yl (y_sliceN (4 * i) (4 * i + 4) rfl Tryd.underlying9 rfl rfl rfl (by omega) (by omega) (by omega)) rfl rfl rfl ?_
      refine J.callv rfl rfl rfl rfl Tb.cl217 rfl (get_spec _ (by simp; omega)) ?_
      refine J.yl (y_64to32 rfl (isS Tryd.underlying212) Tryd.underlying202 rfl) rfl rfl rfl ?_
      refine J.yl (y_ib1 i rfl Tryd.underlying203 Tb.sz202 rfl rfl rfl (by omega)) rfl rfl rfl ?_
      refine J.store1c (cs' := ((wl m (i + 1) ++ r.tail).map u32)) 0 rfl rfl rfl rfl rfl rfl rfl Tb.sz202 rfl (by simp [length_wl, hr]; omega) (by rw [getW_cut m i (by omega), ← wl_set m i r hrn, wv, if_pos (by omega)]) ?_
      refine J.nil ?_
      refine JQ.next hK11 ?_
      refine JC.exit ?_
      refine JQ.then_exit (JQ.block_hit (JQ.next hK7 ?_))
      refine JC.region ?_
      refine J.yl (y_add64 rfl rfl rfl (by omega)) rfl rfl rfl ?_
      refine J.yl (y_move rfl rfl) rfl rfl rfl ?_
      refine J.nil ?_
      refine againK4 (i + 1, r.tail) _ ⟨by dsimp only; omega, by simp [hr]; omega⟩ (by dsimp only; omega) (okE_cons rfl okE_nil) (okE_cons rfl (okE_cons rfl okE_nil))
    · refine JC.skip ?_
      refine JQ.next hK9 ?_
      refine JC.seq fun K12 hK12 => ?_
      refine JC.draw (by kernel_rfl) ?_
      refine D.take 0 (y_move rfl rfl) rfl rfl rfl rfl (by kernel_rfl) (by kernel_rfl) (by kernel_rfl) (PQ.next (PQ.block (PQ.next (PQ.next (PQ.block (PQ.next PQ.body)))))) ?_
      refine D.take 1 (y_sub64 rfl rfl rfl (by omega)) rfl rfl rfl rfl (by kernel_rfl) (by kernel_rfl) (by kernel_rfl) (PQ.next (PQ.block (PQ.next (PQ.next (PQ.block (PQ.next PQ.body)))))) ?_
      refine D.take 4 (y_move rfl rfl) rfl rfl rfl rfl (by kernel_rfl) (by kernel_rfl) (by kernel_rfl) (PQ.next (PQ.block (PQ.next (PQ.next (PQ.block (PQ.next PQ.body)))))) ?_
      refine D.take 5 (y_sub64 rfl rfl rfl (by omega)) rfl rfl rfl rfl (by kernel_rfl) (by kernel_rfl) (by kernel_rfl) (PQ.next (PQ.block (PQ.next (PQ.next (PQ.block (PQ.next PQ.body)))))) ?_
      refine D.take 2 (y_ib1 (i - 15) rfl Tryd.underlying203 Tb.sz202 rfl rfl (by omega) (by omega)) rfl rfl rfl rfl (by kernel_rfl) (by kernel_rfl) (by kernel_rfl) (PQ.next (PQ.block (PQ.next (PQ.next (PQ.block (PQ.next PQ.body)))))) ?_
      refine D.take 3 (y_lb 0 rfl Tb.ag202 rfl rfl (wl_get m i r (i - 15) (by omega))) rfl rfl rfl rfl (by kernel_rfl) (by kernel_rfl) (by kernel_rfl) (PQ.next (PQ.block (PQ.next (PQ.next (PQ.block (PQ.next PQ.body)))))) ?_
      refine D.take 8 (y_assign rfl rfl) rfl rfl rfl rfl (by kernel_rfl) (by kernel_rfl) (by kernel_rfl) (PQ.next (PQ.block (PQ.next (PQ.next (PQ.block (PQ.next PQ.body)))))) ?_
      refine D.take 6 (y_ib1 (i - 2) rfl Tryd.underlying203 Tb.sz202 rfl rfl (by omega) (by omega)) rfl rfl rfl rfl (by kernel_rfl) (by kernel_rfl) (by kernel_rfl) (PQ.next (PQ.block (PQ.next (PQ.next (PQ.block (PQ.next PQ.body)))))) ?_
      refine D.take 7 (y_lb 0 rfl Tb.ag202 rfl rfl (wl_get m i r (i - 2) (by omega))) rfl rfl rfl rfl (by kernel_rfl) (by kernel_rfl) (by kernel_rfl) (PQ.next (PQ.block (PQ.next (PQ.next (PQ.block (PQ.next PQ.body)))))) ?_
      refine D.take 9 (y_assign rfl rfl) rfl rfl rfl rfl (by kernel_rfl) (by kernel_rfl) (by kernel_rfl) (PQ.next (PQ.block (PQ.next (PQ.next (PQ.block (PQ.next PQ.body)))))) ?_
      refine D.done (by kernel_rfl) ?_
      refine JQ.next hK12 ?_
      refine JC.draw (by kernel_rfl) ?_
      refine D.take 0 (y_move rfl rfl) rfl rfl rfl rfl (by kernel_rfl) (by kernel_rfl) (by kernel_rfl) (PQ.block (PQ.next (PQ.next (PQ.block (PQ.next PQ.body))))) ?_
      refine D.take 1 (y_move rfl rfl) rfl rfl rfl rfl (by kernel_rfl) (by kernel_rfl) (by kernel_rfl) (PQ.block (PQ.next (PQ.next (PQ.block (PQ.next PQ.body))))) ?_
      refine D.take 2 (y_sub64 rfl rfl rfl (by omega)) rfl rfl rfl rfl (by kernel_rfl) (by kernel_rfl) (by kernel_rfl) (PQ.block (PQ.next (PQ.next (PQ.block (PQ.next PQ.body))))) ?_
      refine D.take 5 (y_move rfl rfl) rfl rfl rfl rfl (by kernel_rfl) (by kernel_rfl) (by kernel_rfl) (PQ.block (PQ.next (PQ.next (PQ.block (PQ.next PQ.body))))) ?_
      refine D.take 6 (y_sub64 rfl rfl rfl (by omega)) rfl rfl rfl rfl (by kernel_rfl) (by kernel_rfl) (by kernel_rfl) (PQ.block (PQ.next (PQ.next (PQ.block (PQ.next PQ.body))))) ?_
      refine D.take 10 (y_move rfl rfl) rfl rfl rfl rfl (by kernel_rfl) (by kernel_rfl) (by kernel_rfl) (PQ.block (PQ.next (PQ.next (PQ.block (PQ.next PQ.body))))) ?_
      refine D.take 12 (y_move rfl rfl) rfl rfl rfl rfl (by kernel_rfl) (by kernel_rfl) (by kernel_rfl) (PQ.block (PQ.next (PQ.next (PQ.block (PQ.next PQ.body))))) ?_
      refine D.take 15 (y_move rfl rfl) rfl rfl rfl rfl (by kernel_rfl) (by kernel_rfl) (by kernel_rfl) (PQ.block (PQ.next (PQ.next (PQ.block (PQ.next PQ.body))))) ?_
      refine D.take 16 (y_shr32 (n := 3) rfl rfl rfl (by decide)) rfl rfl rfl rfl (by kernel_rfl) (by kernel_rfl) (by kernel_rfl) (PQ.block (PQ.next (PQ.next (PQ.block (PQ.next PQ.body))))) ?_
      refine D.take 19 (y_move rfl rfl) rfl rfl rfl rfl (by kernel_rfl) (by kernel_rfl) (by kernel_rfl) (PQ.block (PQ.next (PQ.next (PQ.block (PQ.next PQ.body))))) ?_
      refine D.take 21 (y_move rfl rfl) rfl rfl rfl rfl (by kernel_rfl) (by kernel_rfl) (by kernel_rfl) (PQ.block (PQ.next (PQ.next (PQ.block (PQ.next PQ.body))))) ?_
      refine D.take 24 (y_move rfl rfl) rfl rfl rfl rfl (by kernel_rfl) (by kernel_rfl) (by kernel_rfl) (PQ.block (PQ.next (PQ.next (PQ.block (PQ.next PQ.body))))) ?_
      refine D.take 25 (y_shr32 (n := 10) rfl rfl rfl (by decide)) rfl rfl rfl rfl (by kernel_rfl) (by kernel_rfl) (by kernel_rfl) (PQ.block (PQ.next (PQ.next (PQ.block (PQ.next PQ.body))))) ?_
      refine D.take 3 (y_ib1 (i - 16) rfl Tryd.underlying203 Tb.sz202 rfl rfl (by omega) (by omega)) rfl rfl rfl rfl (by kernel_rfl) (by kernel_rfl) (by kernel_rfl) (PQ.block (PQ.next (PQ.next (PQ.block (PQ.next PQ.body))))) ?_
      refine D.take 4 (y_lb 0 rfl Tb.ag202 rfl rfl (wl_get m i r (i - 16) (by omega))) rfl rfl rfl rfl (by kernel_rfl) (by kernel_rfl) (by kernel_rfl) (PQ.block (PQ.next (PQ.next (PQ.block (PQ.next PQ.body))))) ?_
      refine D.take 7 (y_ib1 (i - 7) rfl Tryd.underlying203 Tb.sz202 rfl rfl (by omega) (by omega)) rfl rfl rfl rfl (by kernel_rfl) (by kernel_rfl) (by kernel_rfl) (PQ.block (PQ.next (PQ.next (PQ.block (PQ.next PQ.body))))) ?_
      refine D.take 8 (y_lb 0 rfl Tb.ag202 rfl rfl (wl_get m i r (i - 7) (by omega))) rfl rfl rfl rfl (by kernel_rfl) (by kernel_rfl) (by kernel_rfl) (PQ.block (PQ.next (PQ.next (PQ.block (PQ.next PQ.body))))) ?_
      refine D.take 9 (y_add32 rfl rfl rfl) rfl rfl rfl rfl (by kernel_rfl) (by kernel_rfl) (by kernel_rfl) (PQ.block (PQ.next (PQ.next (PQ.block (PQ.next PQ.body))))) ?_
      refine D.callv 11 (by kernel_rfl) rfl rfl rfl rfl rfl Tb.cl196 rfl (right_spec _ 7 (by decide)) ?_
      refine D.callv 13 (by kernel_rfl) rfl rfl rfl rfl rfl Tb.cl196 rfl (right_spec _ 18 (by decide)) ?_
      refine D.take 14 (y_xor32 rfl rfl rfl) rfl rfl rfl rfl (by kernel_rfl) (by kernel_rfl) (by kernel_rfl) (PQ.block (PQ.next (PQ.next (PQ.block (PQ.next PQ.body))))) ?_
      refine D.take 17 (y_xor32 rfl rfl rfl) rfl rfl rfl rfl (by kernel_rfl) (by kernel_rfl) (by kernel_rfl) (PQ.block (PQ.next (PQ.next (PQ.block (PQ.next PQ.body))))) ?_
      refine D.take 18 (y_add32 rfl rfl rfl) rfl rfl rfl rfl (by kernel_rfl) (by kernel_rfl) (by kernel_rfl) (PQ.block (PQ.next (PQ.next (PQ.block (PQ.next PQ.body))))) ?_
      refine D.callv 20 (by kernel_rfl) rfl rfl rfl rfl rfl Tb.cl196 rfl (right_spec _ 17 (by decide)) ?_
      refine D.callv 22 (by kernel_rfl) rfl rfl rfl rfl rfl Tb.cl196 rfl (right_spec _ 19 (by decide)) ?_
      refine D.take 23 (y_xor32 rfl rfl rfl) rfl rfl rfl rfl (by kernel_rfl) (by kernel_rfl) (by kernel_rfl) (PQ.block (PQ.next (PQ.next (PQ.block (PQ.next PQ.body))))) ?_
      refine D.take 26 (y_xor32 rfl rfl rfl) rfl rfl rfl rfl (by kernel_rfl) (by kernel_rfl) (by kernel_rfl) (PQ.block (PQ.next (PQ.next (PQ.block (PQ.next PQ.body))))) ?_
      refine D.take 27 (y_add32 rfl rfl rfl) rfl rfl rfl rfl (by kernel_rfl) (by kernel_rfl) (by kernel_rfl) (PQ.block (PQ.next (PQ.next (PQ.block (PQ.next PQ.body))))) ?_
      refine D.take 28 (y_ib1 i rfl Tryd.underlying203 Tb.sz202 rfl rfl rfl (by omega)) rfl rfl rfl rfl (by kernel_rfl) (by kernel_rfl) (by kernel_rfl) (PQ.block (PQ.next (PQ.next (PQ.block (PQ.next PQ.body))))) ?_
      refine D.store1c (cs' := ((wl m (i + 1) ++ r.tail).map u32)) 29 0 (by kernel_rfl) rfl (by kernel_rfl) (by kernel_rfl) rfl rfl rfl rfl rfl rfl rfl Tb.sz202 rfl (by simp [length_wl, hr]; omega) (by rw [← wl_set m i r hrn, wv, if_neg (by omega)]; rfl) ?_
      refine JQ.block_normal (JQ.next hK7 ?_)
      refine JC.region ?_
      refine J.yl (y_add64 rfl rfl rfl (by omega)) rfl rfl rfl ?_
      refine J.yl (y_move rfl rfl) rfl rfl rfl ?_
      refine J.nil ?_
      refine againK4 (i + 1, r.tail) _ ⟨by dsimp only; omega, by simp [hr]; omega⟩ (by dsimp only; omega) (okE_cons rfl okE_nil) (okE_cons rfl (okE_cons rfl okE_nil))
  · obtain rfl : i = 64 := by omega
    obtain rfl : r = [] := List.eq_nil_of_length_eq_zero (by omega)
    rw [List.append_nil]
    refine JC.exit ?_
    refine JQ.then_exit (JQ.then_exit (JQ.block_hit (JQ.next hK2 ?_)))
    refine JC.seq fun K13 hK13 => ?_
    refine JC.region ?_
    refine J.yl (y_lbW 0 rfl Tb.ag203 Tb.sz203 (by first | (simp [length_wl]; done) | rfl) rfl rfl) rfl rfl rfl ?_
    refine J.storeW 0 rfl rfl rfl rfl rfl rfl rfl Tb.sz203 (by first | (simp [length_wl]; done) | rfl) (by first | (simp [length_wl]; done) | rfl) (by first | exact u32s1 _ | exact one_vc _ | (simp; done) | (intro u hu; simp only [List.mem_cons, List.not_mem_nil, or_false] at hu; rcases hu with rfl | rfl <;> rfl)) ?_
    refine J.nil ?_
    refine JQ.next hK13 ?_
    refine JC.ret ?_
    exact ret1 rfl (r_cellA 0 rfl rfl Tb.ag203 (by rw [List.length_map, length_wl]; exact Tb.sz203)) fun w hs => Post.pure hs
theorem fill8 (x : V8) : Instr.fill (fun i => some (i * 1, 1)) (vc ⟨0, 0, 0, 0, 0, 0, 0, 0⟩).toArray [(0, u32 x.a), (1, u32 x.b), (2, u32 x.c), (3, u32 x.d), (4, u32 x.e), (5, u32 x.f), (6, u32 x.g), (7, u32 x.h)] = some (vc x).toArray :=
  fill_all (vc x) 0 [] (vc ⟨0, 0, 0, 0, 0, 0, 0, 0⟩) (by simp [vc]; exact ⟨rfl, rfl, rfl, rfl, rfl, rfl, rfl, rfl⟩) rfl rfl
theorem mix_spec (hG : ∀ w, Gl w → At w ⟨1, 0, none⟩ (kk.map u32)) (v : V8) (m : List UInt8) (hm : m.length = 64) : PureFn Tryd.prog Gl 164 [vv v, str m] F (vv (comp v m)) := by
  refine FnSpec.intro Tryd.func164 rfl Tryd.ntmps164 rfl fun X M w => ?_
  refine JC.seq fun K1 hK1 => ?_
  refine JC.region ?_
  refine J.box rfl rfl rfl rfl rfl rfl fun g2 => ?_
  refine J.alloc rfl rfl rfl rfl Tb.zz204 rfl fun g4 => ?_
  refine J.nil ?_
  refine JQ.next hK1 ?_
  refine JC.seq fun K2 hK2 => ?_
  refine JC.region ?_
  refine J.yl (y_lbW 1 rfl Tb.ag204 Tb.sz204 (by first | (simp [length_wl]; done) | rfl) rfl rfl) rfl rfl rfl ?_
  refine J.alloc rfl rfl rfl rfl Tb.zz204 rfl fun g5 => ?_
  refine J.storeW 0 rfl rfl rfl rfl rfl rfl rfl Tb.sz204 (by first | (simp [length_wl]; done) | rfl) (by first | (simp [length_wl]; done) | rfl) (by first | exact u32s1 _ | exact one_vc _ | (simp; done) | (intro u hu; simp only [List.mem_cons, List.not_mem_nil, or_false] at hu; rcases hu with rfl | rfl <;> rfl)) ?_
  refine J.nil ?_
  refine JQ.next hK2 ?_
  refine JC.seq fun K3 hK3 => ?_
  refine JC.seq fun K4 hK4 => ?_
  refine JC.region ?_
  refine J.yl (y_move rfl rfl) rfl rfl rfl ?_
  refine J.callv rfl rfl rfl rfl Tb.cl195 rfl (spread_spec m hm) ?_
  refine J.yl (y_move rfl rfl) rfl rfl rfl ?_
  refine J.nil ?_
  refine JQ.next hK4 ?_
  refine JC.block ?_
  refine JC.loopE (σ := Nat) (M := fun i => [(16, .int .i64 (i : Int))]) (kp := [(2, _), (4, _), (5, _), (15, _)]) (hkp := (okE_cons rfl (okE_cons rfl (okE_cons rfl (okE_cons rfl okE_nil))))) (Dc := fun i => [.box g5 204 (vc (rs m v i)), .box g4 204 (vc ⟨0, 0, 0, 0, 0, 0, 0, 0⟩), .box g2 204 (vc v)]) (H := fun _ => F) (Ψ := fun i => i ≤ 64) (μ := fun i => 64 - i) 0 (by omega) (okE_cons rfl okE_nil) (fun w h => h) (fun i hi K5 againK5 => ?_)
  refine JC.seq fun K6 hK6 => ?_
  refine JC.region ?_
  refine J.yl (y_lt rfl rfl rfl) rfl rfl rfl ?_
  refine J.nil ?_
  refine JQ.next hK6 ?_
  refine JC.seq fun K7 hK7 => ?_
  refine JC.condp rfl (fun h3 => ?_) (fun h3 => ?_)
  · refine JC.skip ?_
    refine JQ.next hK7 ?_
    refine JC.seq fun K8 hK8 => ?_
    refine JC.block ?_
    refine JC.seq fun K9 hK9 => ?_
    refine JC.region ?_
    refine J.yl (y_move rfl rfl) rfl rfl rfl ?_
    refine J.yl (y_ielemN i rfl Tryd.underlying203 Tb.ag202 Tb.sz202 rfl rfl rfl (by omega) (wl_getm m 64 i (by omega))) rfl rfl rfl ?_
    refine J.yl (y_assign rfl rfl) rfl rfl rfl ?_
    refine J.yl (y_assign rfl rfl) rfl rfl rfl ?_
    refine J.nil ?_
    refine JQ.next hK9 ?_
    refine JC.seq fun K10 hK10 => ?_
    refine JC.draw (by kernel_rfl) ?_
    refine D.take 0 (y_ib rfl Tryd.underlying204 Tb.sz202 rfl rfl (by decide)) rfl rfl rfl rfl (by kernel_rfl) (by kernel_rfl) (by kernel_rfl) (PQ.next (PQ.block (PQ.next (PQ.next (PQ.block (PQ.next PQ.body)))))) ?_
    refine D.take 1 (y_lb 0 rfl Tb.ag202 rfl rfl rfl) rfl rfl rfl rfl (by kernel_rfl) (by kernel_rfl) (by kernel_rfl) (PQ.next (PQ.block (PQ.next (PQ.next (PQ.block (PQ.next PQ.body)))))) ?_
    refine D.take 2 (y_ib rfl Tryd.underlying204 Tb.sz202 rfl rfl (by decide)) rfl rfl rfl rfl (by kernel_rfl) (by kernel_rfl) (by kernel_rfl) (PQ.next (PQ.block (PQ.next (PQ.next (PQ.block (PQ.next PQ.body)))))) ?_
    refine D.take 3 (y_lb 0 rfl Tb.ag202 rfl rfl rfl) rfl rfl rfl rfl (by kernel_rfl) (by kernel_rfl) (by kernel_rfl) (PQ.next (PQ.block (PQ.next (PQ.next (PQ.block (PQ.next PQ.body)))))) ?_
    refine D.take 4 (y_assign rfl rfl) rfl rfl rfl rfl (by kernel_rfl) (by kernel_rfl) (by kernel_rfl) (PQ.next (PQ.block (PQ.next (PQ.next (PQ.block (PQ.next PQ.body)))))) ?_
    refine D.take 5 (y_assign rfl rfl) rfl rfl rfl rfl (by kernel_rfl) (by kernel_rfl) (by kernel_rfl) (PQ.next (PQ.block (PQ.next (PQ.next (PQ.block (PQ.next PQ.body)))))) ?_
    refine D.done (by kernel_rfl) ?_
    refine JQ.next hK10 ?_
    refine JC.seq fun K11 hK11 => ?_
    refine JC.draw (by kernel_rfl) ?_
    refine D.take 0 (y_ib rfl Tryd.underlying204 Tb.sz202 rfl rfl (by decide)) rfl rfl rfl rfl (by kernel_rfl) (by kernel_rfl) (by kernel_rfl) (PQ.next (PQ.block (PQ.next (PQ.next (PQ.block (PQ.next PQ.body)))))) ?_
    refine D.take 1 (y_lb 0 rfl Tb.ag202 rfl rfl rfl) rfl rfl rfl rfl (by kernel_rfl) (by kernel_rfl) (by kernel_rfl) (PQ.next (PQ.block (PQ.next (PQ.next (PQ.block (PQ.next PQ.body)))))) ?_
    refine D.take 2 (y_move rfl rfl) rfl rfl rfl rfl (by kernel_rfl) (by kernel_rfl) (by kernel_rfl) (PQ.next (PQ.block (PQ.next (PQ.next (PQ.block (PQ.next PQ.body)))))) ?_
    refine D.take 4 (y_move rfl rfl) rfl rfl rfl rfl (by kernel_rfl) (by kernel_rfl) (by kernel_rfl) (PQ.next (PQ.block (PQ.next (PQ.next (PQ.block (PQ.next PQ.body)))))) ?_
    refine D.take 7 (y_move rfl rfl) rfl rfl rfl rfl (by kernel_rfl) (by kernel_rfl) (by kernel_rfl) (PQ.next (PQ.block (PQ.next (PQ.next (PQ.block (PQ.next PQ.body)))))) ?_
    refine D.take 11 (y_move rfl rfl) rfl rfl rfl rfl (by kernel_rfl) (by kernel_rfl) (by kernel_rfl) (PQ.next (PQ.block (PQ.next (PQ.next (PQ.block (PQ.next PQ.body)))))) ?_
    refine D.take 12 (y_ib rfl Tryd.underlying204 Tb.sz202 rfl rfl (by decide)) rfl rfl rfl rfl (by kernel_rfl) (by kernel_rfl) (by kernel_rfl) (PQ.next (PQ.block (PQ.next (PQ.next (PQ.block (PQ.next PQ.body)))))) ?_
    refine D.take 13 (y_lb 0 rfl Tb.ag202 rfl rfl rfl) rfl rfl rfl rfl (by kernel_rfl) (by kernel_rfl) (by kernel_rfl) (PQ.next (PQ.block (PQ.next (PQ.next (PQ.block (PQ.next PQ.body)))))) ?_
    refine D.take 14 (y_and32 rfl rfl rfl) rfl rfl rfl rfl (by kernel_rfl) (by kernel_rfl) (by kernel_rfl) (PQ.next (PQ.block (PQ.next (PQ.next (PQ.block (PQ.next PQ.body)))))) ?_
    refine D.take 15 (y_move rfl rfl) rfl rfl rfl rfl (by kernel_rfl) (by kernel_rfl) (by kernel_rfl) (PQ.next (PQ.block (PQ.next (PQ.next (PQ.block (PQ.next PQ.body)))))) ?_
    refine D.take 16 (y_not32 rfl rfl) rfl rfl rfl rfl (by kernel_rfl) (by kernel_rfl) (by kernel_rfl) (PQ.next (PQ.block (PQ.next (PQ.next (PQ.block (PQ.next PQ.body)))))) ?_
    refine D.take 17 (y_ib rfl Tryd.underlying204 Tb.sz202 rfl rfl (by decide)) rfl rfl rfl rfl (by kernel_rfl) (by kernel_rfl) (by kernel_rfl) (PQ.next (PQ.block (PQ.next (PQ.next (PQ.block (PQ.next PQ.body)))))) ?_
    refine D.take 18 (y_lb 0 rfl Tb.ag202 rfl rfl rfl) rfl rfl rfl rfl (by kernel_rfl) (by kernel_rfl) (by kernel_rfl) (PQ.next (PQ.block (PQ.next (PQ.next (PQ.block (PQ.next PQ.body)))))) ?_
    refine D.take 19 (y_and32 rfl rfl rfl) rfl rfl rfl rfl (by kernel_rfl) (by kernel_rfl) (by kernel_rfl) (PQ.next (PQ.block (PQ.next (PQ.next (PQ.block (PQ.next PQ.body)))))) ?_
    refine D.take 20 (y_xor32 rfl rfl rfl) rfl rfl rfl rfl (by kernel_rfl) (by kernel_rfl) (by kernel_rfl) (PQ.next (PQ.block (PQ.next (PQ.next (PQ.block (PQ.next PQ.body)))))) ?_
    refine D.take 22 (y_move rfl rfl) rfl rfl rfl rfl (by kernel_rfl) (by kernel_rfl) (by kernel_rfl) (PQ.next (PQ.block (PQ.next (PQ.next (PQ.block (PQ.next PQ.body)))))) ?_
    refine D.take 26 (y_move rfl rfl) rfl rfl rfl rfl (by kernel_rfl) (by kernel_rfl) (by kernel_rfl) (PQ.next (PQ.block (PQ.next (PQ.next (PQ.block (PQ.next PQ.body)))))) ?_
    refine D.take 23 (y_ib1 i rfl Tryd.underlying203 Tb.sz202 rfl rfl rfl (by omega)) rfl rfl rfl rfl (by kernel_rfl) (by kernel_rfl) (by kernel_rfl) (PQ.next (PQ.block (PQ.next (PQ.next (PQ.block (PQ.next PQ.body)))))) ?_
    refine D.take 24 (y_load1 rfl Tb.ag202 rfl (fun w hs => (hG w hs.glob).cell0 (kk_get i (by omega)))) rfl rfl rfl rfl (by kernel_rfl) (by kernel_rfl) (by kernel_rfl) (PQ.next (PQ.block (PQ.next (PQ.next (PQ.block (PQ.next PQ.body)))))) ?_
    refine D.callv 3 (by kernel_rfl) rfl rfl rfl rfl rfl Tb.cl196 rfl (right_spec _ 6 (by decide)) ?_
    refine D.callv 5 (by kernel_rfl) rfl rfl rfl rfl rfl Tb.cl196 rfl (right_spec _ 11 (by decide)) ?_
    refine D.take 6 (y_xor32 rfl rfl rfl) rfl rfl rfl rfl (by kernel_rfl) (by kernel_rfl) (by kernel_rfl) (PQ.next (PQ.block (PQ.next (PQ.next (PQ.block (PQ.next PQ.body)))))) ?_
    refine D.callv 8 (by kernel_rfl) rfl rfl rfl rfl rfl Tb.cl196 rfl (right_spec _ 25 (by decide)) ?_
    refine D.take 9 (y_xor32 rfl rfl rfl) rfl rfl rfl rfl (by kernel_rfl) (by kernel_rfl) (by kernel_rfl) (PQ.next (PQ.block (PQ.next (PQ.next (PQ.block (PQ.next PQ.body)))))) ?_
    refine D.take 10 (y_add32 rfl rfl rfl) rfl rfl rfl rfl (by kernel_rfl) (by kernel_rfl) (by kernel_rfl) (PQ.next (PQ.block (PQ.next (PQ.next (PQ.block (PQ.next PQ.body)))))) ?_
    refine D.take 21 (y_add32 rfl rfl rfl) rfl rfl rfl rfl (by kernel_rfl) (by kernel_rfl) (by kernel_rfl) (PQ.next (PQ.block (PQ.next (PQ.next (PQ.block (PQ.next PQ.body)))))) ?_
    refine D.take 25 (y_add32 rfl rfl rfl) rfl rfl rfl rfl (by kernel_rfl) (by kernel_rfl) (by kernel_rfl) (PQ.next (PQ.block (PQ.next (PQ.next (PQ.block (PQ.next PQ.body)))))) ?_
    refine D.take 27 (y_add32 rfl rfl rfl) rfl rfl rfl rfl (by kernel_rfl) (by kernel_rfl) (by kernel_rfl) (PQ.next (PQ.block (PQ.next (PQ.next (PQ.block (PQ.next PQ.body)))))) ?_
    refine D.take 28 (y_assign rfl rfl) rfl rfl rfl rfl (by kernel_rfl) (by kernel_rfl) (by kernel_rfl) (PQ.next (PQ.block (PQ.next (PQ.next (PQ.block (PQ.next PQ.body)))))) ?_
    refine D.done (by kernel_rfl) ?_
    refine JQ.next hK11 ?_
    refine JC.seq fun K12 hK12 => ?_
    refine JC.draw (by kernel_rfl) ?_
    refine D.take 0 (y_move rfl rfl) rfl rfl rfl rfl (by kernel_rfl) (by kernel_rfl) (by kernel_rfl) (PQ.next (PQ.block (PQ.next (PQ.next (PQ.block (PQ.next PQ.body)))))) ?_
    refine D.take 2 (y_move rfl rfl) rfl rfl rfl rfl (by kernel_rfl) (by kernel_rfl) (by kernel_rfl) (PQ.next (PQ.block (PQ.next (PQ.next (PQ.block (PQ.next PQ.body)))))) ?_
    refine D.take 5 (y_move rfl rfl) rfl rfl rfl rfl (by kernel_rfl) (by kernel_rfl) (by kernel_rfl) (PQ.next (PQ.block (PQ.next (PQ.next (PQ.block (PQ.next PQ.body)))))) ?_
    refine D.take 8 (y_move rfl rfl) rfl rfl rfl rfl (by kernel_rfl) (by kernel_rfl) (by kernel_rfl) (PQ.next (PQ.block (PQ.next (PQ.next (PQ.block (PQ.next PQ.body)))))) ?_
    refine D.take 9 (y_ib rfl Tryd.underlying204 Tb.sz202 rfl rfl (by decide)) rfl rfl rfl rfl (by kernel_rfl) (by kernel_rfl) (by kernel_rfl) (PQ.next (PQ.block (PQ.next (PQ.next (PQ.block (PQ.next PQ.body)))))) ?_
    refine D.take 10 (y_lb 0 rfl Tb.ag202 rfl rfl rfl) rfl rfl rfl rfl (by kernel_rfl) (by kernel_rfl) (by kernel_rfl) (PQ.next (PQ.block (PQ.next (PQ.next (PQ.block (PQ.next PQ.body)))))) ?_
    refine D.take 11 (y_and32 rfl rfl rfl) rfl rfl rfl rfl (by kernel_rfl) (by kernel_rfl) (by kernel_rfl) (PQ.next (PQ.block (PQ.next (PQ.next (PQ.block (PQ.next PQ.body)))))) ?_
    refine D.take 12 (y_move rfl rfl) rfl rfl rfl rfl (by kernel_rfl) (by kernel_rfl) (by kernel_rfl) (PQ.next (PQ.block (PQ.next (PQ.next (PQ.block (PQ.next PQ.body)))))) ?_
    refine D.take 13 (y_ib rfl Tryd.underlying204 Tb.sz202 rfl rfl (by decide)) rfl rfl rfl rfl (by kernel_rfl) (by kernel_rfl) (by kernel_rfl) (PQ.next (PQ.block (PQ.next (PQ.next (PQ.block (PQ.next PQ.body)))))) ?_
    refine D.take 14 (y_lb 0 rfl Tb.ag202 rfl rfl rfl) rfl rfl rfl rfl (by kernel_rfl) (by kernel_rfl) (by kernel_rfl) (PQ.next (PQ.block (PQ.next (PQ.next (PQ.block (PQ.next PQ.body)))))) ?_
    refine D.take 15 (y_and32 rfl rfl rfl) rfl rfl rfl rfl (by kernel_rfl) (by kernel_rfl) (by kernel_rfl) (PQ.next (PQ.block (PQ.next (PQ.next (PQ.block (PQ.next PQ.body)))))) ?_
    refine D.take 16 (y_xor32 rfl rfl rfl) rfl rfl rfl rfl (by kernel_rfl) (by kernel_rfl) (by kernel_rfl) (PQ.next (PQ.block (PQ.next (PQ.next (PQ.block (PQ.next PQ.body)))))) ?_
    refine D.take 17 (y_ib rfl Tryd.underlying204 Tb.sz202 rfl rfl (by decide)) rfl rfl rfl rfl (by kernel_rfl) (by kernel_rfl) (by kernel_rfl) (PQ.next (PQ.block (PQ.next (PQ.next (PQ.block (PQ.next PQ.body)))))) ?_
    refine D.take 18 (y_lb 0 rfl Tb.ag202 rfl rfl rfl) rfl rfl rfl rfl (by kernel_rfl) (by kernel_rfl) (by kernel_rfl) (PQ.next (PQ.block (PQ.next (PQ.next (PQ.block (PQ.next PQ.body)))))) ?_
    refine D.take 19 (y_ib rfl Tryd.underlying204 Tb.sz202 rfl rfl (by decide)) rfl rfl rfl rfl (by kernel_rfl) (by kernel_rfl) (by kernel_rfl) (PQ.next (PQ.block (PQ.next (PQ.next (PQ.block (PQ.next PQ.body)))))) ?_
    refine D.take 20 (y_lb 0 rfl Tb.ag202 rfl rfl rfl) rfl rfl rfl rfl (by kernel_rfl) (by kernel_rfl) (by kernel_rfl) (PQ.next (PQ.block (PQ.next (PQ.next (PQ.block (PQ.next PQ.body)))))) ?_
    refine D.take 21 (y_and32 rfl rfl rfl) rfl rfl rfl rfl (by kernel_rfl) (by kernel_rfl) (by kernel_rfl) (PQ.next (PQ.block (PQ.next (PQ.next (PQ.block (PQ.next PQ.body)))))) ?_
    refine D.take 22 (y_xor32 rfl rfl rfl) rfl rfl rfl rfl (by kernel_rfl) (by kernel_rfl) (by kernel_rfl) (PQ.next (PQ.block (PQ.next (PQ.next (PQ.block (PQ.next PQ.body)))))) ?_
    refine D.callv 1 (by kernel_rfl) rfl rfl rfl rfl rfl Tb.cl196 rfl (right_spec _ 2 (by decide)) ?_
    refine D.callv 3 (by kernel_rfl) rfl rfl rfl rfl rfl Tb.cl196 rfl (right_spec _ 13 (by decide)) ?_
    refine D.take 4 (y_xor32 rfl rfl rfl) rfl rfl rfl rfl (by kernel_rfl) (by kernel_rfl) (by kernel_rfl) (PQ.next (PQ.block (PQ.next (PQ.next (PQ.block (PQ.next PQ.body)))))) ?_
    refine D.callv 6 (by kernel_rfl) rfl rfl rfl rfl rfl Tb.cl196 rfl (right_spec _ 22 (by decide)) ?_
    refine D.take 7 (y_xor32 rfl rfl rfl) rfl rfl rfl rfl (by kernel_rfl) (by kernel_rfl) (by kernel_rfl) (PQ.next (PQ.block (PQ.next (PQ.next (PQ.block (PQ.next PQ.body)))))) ?_
    refine D.take 23 (y_add32 rfl rfl rfl) rfl rfl rfl rfl (by kernel_rfl) (by kernel_rfl) (by kernel_rfl) (PQ.next (PQ.block (PQ.next (PQ.next (PQ.block (PQ.next PQ.body)))))) ?_
    refine D.take 24 (y_assign rfl rfl) rfl rfl rfl rfl (by kernel_rfl) (by kernel_rfl) (by kernel_rfl) (PQ.next (PQ.block (PQ.next (PQ.next (PQ.block (PQ.next PQ.body)))))) ?_
    refine D.done (by kernel_rfl) ?_
    refine JQ.next hK12 ?_
    refine JC.region ?_
    refine J.yl (y_move rfl rfl) rfl rfl rfl ?_
    refine J.yl (y_move rfl rfl) rfl rfl rfl ?_
    refine J.yl (y_add32 rfl rfl rfl) rfl rfl rfl ?_
    refine J.yl (y_move rfl rfl) rfl rfl rfl ?_
    refine J.yl (y_ib rfl Tryd.underlying204 Tb.sz202 rfl rfl (by decide)) rfl rfl rfl ?_
    refine J.yl (y_lb 0 rfl Tb.ag202 rfl rfl rfl) rfl rfl rfl ?_
    refine J.yl (y_ib rfl Tryd.underlying204 Tb.sz202 rfl rfl (by decide)) rfl rfl rfl ?_
    refine J.yl (y_lb 0 rfl Tb.ag202 rfl rfl rfl) rfl rfl rfl ?_
    refine J.yl (y_ib rfl Tryd.underlying204 Tb.sz202 rfl rfl (by decide)) rfl rfl rfl ?_
    refine J.yl (y_lb 0 rfl Tb.ag202 rfl rfl rfl) rfl rfl rfl ?_
    refine J.yl (y_move rfl rfl) rfl rfl rfl ?_
    refine J.yl (y_add32 rfl rfl rfl) rfl rfl rfl ?_
    refine J.yl (y_move rfl rfl) rfl rfl rfl ?_
    refine J.yl (y_ib rfl Tryd.underlying204 Tb.sz202 rfl rfl (by decide)) rfl rfl rfl ?_
    refine J.yl (y_lb 0 rfl Tb.ag202 rfl rfl rfl) rfl rfl rfl ?_
    refine J.yl (y_ib rfl Tryd.underlying204 Tb.sz202 rfl rfl (by decide)) rfl rfl rfl ?_
    refine J.yl (y_lb 0 rfl Tb.ag202 rfl rfl rfl) rfl rfl rfl ?_
    refine J.yl (y_buildA (cs := vc (rs m v (i + 1))) rfl Tryd.underlying204 Tb.zz204 Tb.sz202 rfl (fill8 (rs m v (i + 1)))) rfl rfl rfl ?_
    refine J.storeW 0 rfl rfl rfl rfl rfl rfl rfl Tb.sz204 (by first | (simp [length_wl]; done) | rfl) (by first | (simp [length_wl]; done) | rfl) (by first | exact u32s1 _ | exact one_vc _ | (simp; done) | (intro u hu; simp only [List.mem_cons, List.not_mem_nil, or_false] at hu; rcases hu with rfl | rfl <;> rfl)) ?_
    refine J.nil ?_
    refine JQ.block_normal (JQ.next hK8 ?_)
    refine JC.region ?_
    refine J.yl (y_add64 rfl rfl rfl (by omega)) rfl rfl rfl ?_
    refine J.yl (y_move rfl rfl) rfl rfl rfl ?_
    refine J.nil ?_
    refine againK5 (i + 1) _ (by omega) (by omega) (okE_cons rfl okE_nil) (okE_cons rfl (okE_cons rfl (okE_cons rfl (okE_cons rfl okE_nil))))
  · obtain rfl : i = 64 := by omega
    refine JC.exit ?_
    refine JQ.then_exit (JQ.then_exit (JQ.block_hit (JQ.next hK3 ?_)))
    refine JC.seq fun K13 hK13 => ?_
    refine JC.seq fun K14 hK14 => ?_
    refine JC.region ?_
    refine J.yl (y_move rfl rfl) rfl rfl rfl ?_
    refine J.nil ?_
    refine JQ.next hK14 ?_
    refine JC.block ?_
    refine JC.loopE (σ := Nat) (M := fun i => [(95, .int .i64 (i : Int))]) (kp := [(2, _), (4, _), (5, _)]) (hkp := (okE_cons rfl (okE_cons rfl (okE_cons rfl okE_nil)))) (Dc := fun i => [.box g5 204 ((mixl (rs m v 64) v i).map u32), .box g4 204 (vc ⟨0, 0, 0, 0, 0, 0, 0, 0⟩), .box g2 204 (vc v)]) (H := fun _ => F) (Ψ := fun i => i ≤ 8) (μ := fun i => 8 - i) 0 (by omega) (okE_cons rfl okE_nil) (fun w h => h) (fun i hi K15 againK15 => ?_)
    refine JC.seq fun K16 hK16 => ?_
    refine JC.region ?_
    refine J.yl (y_lt rfl rfl rfl) rfl rfl rfl ?_
    refine J.nil ?_
    refine JQ.next hK16 ?_
    refine JC.seq fun K17 hK17 => ?_
    refine JC.condp rfl (fun h3 => ?_) (fun h3 => ?_)
    · refine JC.skip ?_
      refine JQ.next hK17 ?_
      refine JC.seq fun K18 hK18 => ?_
      refine JC.block ?_
      refine JC.seq fun K19 hK19 => ?_
      refine JC.region ?_
      refine J.yl (y_move rfl rfl) rfl rfl rfl ?_
      refine J.yl (y_assign rfl rfl) rfl rfl rfl ?_
      refine J.nil ?_
      refine JQ.next hK19 ?_
      refine JC.draw (by kernel_rfl) ?_
      refine D.take 0 (y_move rfl rfl) rfl rfl rfl rfl (by kernel_rfl) (by kernel_rfl) (by kernel_rfl) (PQ.block (PQ.next (PQ.next (PQ.block (PQ.next PQ.body))))) ?_
      refine D.take 3 (y_move rfl rfl) rfl rfl rfl rfl (by kernel_rfl) (by kernel_rfl) (by kernel_rfl) (PQ.block (PQ.next (PQ.next (PQ.block (PQ.next PQ.body))))) ?_
      refine D.take 1 (y_ib1 i rfl Tryd.underlying204 Tb.sz202 rfl rfl rfl (by omega)) rfl rfl rfl rfl (by kernel_rfl) (by kernel_rfl) (by kernel_rfl) (PQ.block (PQ.next (PQ.next (PQ.block (PQ.next PQ.body))))) ?_
      refine D.take 2 (y_lb 0 rfl Tb.ag202 rfl rfl (mixl_get _ _ i (by omega))) rfl rfl rfl rfl (by kernel_rfl) (by kernel_rfl) (by kernel_rfl) (PQ.block (PQ.next (PQ.next (PQ.block (PQ.next PQ.body))))) ?_
      refine D.take 4 (y_ib1 i rfl Tryd.underlying204 Tb.sz202 rfl rfl rfl (by omega)) rfl rfl rfl rfl (by kernel_rfl) (by kernel_rfl) (by kernel_rfl) (PQ.block (PQ.next (PQ.next (PQ.block (PQ.next PQ.body))))) ?_
      refine D.take 5 (y_lb 2 rfl Tb.ag202 rfl rfl (l_get _ i (by omega))) rfl rfl rfl rfl (by kernel_rfl) (by kernel_rfl) (by kernel_rfl) (PQ.block (PQ.next (PQ.next (PQ.block (PQ.next PQ.body))))) ?_
      refine D.take 6 (y_add32 rfl rfl rfl) rfl rfl rfl rfl (by kernel_rfl) (by kernel_rfl) (by kernel_rfl) (PQ.block (PQ.next (PQ.next (PQ.block (PQ.next PQ.body))))) ?_
      refine D.take 7 (y_ib1 i rfl Tryd.underlying204 Tb.sz202 rfl rfl rfl (by omega)) rfl rfl rfl rfl (by kernel_rfl) (by kernel_rfl) (by kernel_rfl) (PQ.block (PQ.next (PQ.next (PQ.block (PQ.next PQ.body))))) ?_
      refine D.store1c (cs' := (mixl (rs m v 64) v (i + 1)).map u32) 8 0 (by kernel_rfl) rfl (by kernel_rfl) (by kernel_rfl) rfl rfl rfl rfl rfl rfl rfl Tb.sz202 rfl (by rw [List.length_map, mixl_len _ _ _ (by omega)]; omega) (mixl_set _ _ i (by omega)) ?_
      refine JQ.block_normal (JQ.next hK18 ?_)
      refine JC.region ?_
      refine J.yl (y_add64 rfl rfl rfl (by omega)) rfl rfl rfl ?_
      refine J.yl (y_move rfl rfl) rfl rfl rfl ?_
      refine J.nil ?_
      refine againK15 (i + 1) _ (by omega) (by omega) (okE_cons rfl okE_nil) (okE_cons rfl (okE_cons rfl (okE_cons rfl okE_nil)))
    · obtain rfl : i = 8 := by omega
      refine JC.exit ?_
      refine JQ.then_exit (JQ.then_exit (JQ.block_hit (JQ.next hK13 ?_)))
      refine JC.seq fun K20 hK20 => ?_
      refine JC.region ?_
      refine J.yl (y_lbW 0 rfl Tb.ag204 Tb.sz204 (by first | (simp [length_wl]; done) | rfl) rfl rfl) rfl rfl rfl ?_
      refine J.storeW 1 rfl rfl rfl rfl rfl rfl rfl Tb.sz204 (by first | (simp [length_wl]; done) | rfl) (by first | (simp [length_wl]; done) | rfl) (by first | exact u32s1 _ | exact one_vc _ | (simp; done) | (intro u hu; simp only [List.mem_cons, List.not_mem_nil, or_false] at hu; rcases hu with rfl | rfl <;> rfl)) ?_
      refine J.nil ?_
      refine JQ.next hK20 ?_
      refine JC.ret ?_
      exact ret1 rfl (r_cellA (cs := vc (comp v m)) 1 rfl rfl Tb.ag204 Tb.sz204) fun w hs => Post.pure hs
end Go.Proofs.YtjkfeonbioccmaaDoor
