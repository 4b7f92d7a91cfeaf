/- Speculum proofs: contracts: tiles that are read. -/
/- Speculum proofs: contracts: roots, paths and proofs that tiles tell. -/
/- Speculum proofs: contracts: paths and proofs that tiles tell. -/
/- Speculum proofs: contracts: proofs that tiles tell. -/
/- Speculum proofs: contracts: tiles that are made, and that grow. -/
import Derived.Test.YtjkfeonbioccmaaDoorMh
import Derived.Test.YtjkfeonbioccmaaDoorMf
import Derived.Test.YtjkfeonbioccmaaDoorMd
import Derived.Test.YtjkfeonbioccmaaDoorMe
namespace Go.Proofs.YtjkfeonbioccmaaDoor
open Go Go.Sx Go.RowKit
set_option linter.unusedVariables false
set_option linter.unusedSimpArgs false
set_option maxRecDepth 100000
set_option maxHeartbeats 1000000
variable {Gl F : World → Prop}
theorem laidOutT : laidOutB Tryd.prog = true := by kernel_rfl
theorem mkKey : MK Tryd.prog 38 := by
  have hrow : 38 < Tryd.prog.types.size := of_decide_eq_true (by kernel_rfl)
  refine ⟨deep_law_laid laidOutT (m := 2) (by omega) hrow (by kernel_rfl) (by kernel_rfl), fun a b ha hb => ?_⟩
  have hw : ∀ z : Int, in64 z → (Lit.int .i64 z).wf = true := fun z hz => by
    unfold in64 at hz
    simp [Lit.wf, IntKind.min, IntKind.max, IntKind.signed, IntKind.bits]
    omega
  have hwa := hw a ha
  have hwb := hw b hb
  have c1 : Tryd.prog.cellsOf 3 = 1 := by kernel_rfl
  have c2 : Tryd.prog.cellsOf 38 = 2 := by kernel_rfl
  have hk : Tryd.prog.keyType 38 = true := by kernel_rfl
  obtain ⟨d, hd⟩ : ∃ d, Tryd.prog.types.size = d + 1 := ⟨Tryd.prog.types.size - 1, by omega⟩
  have hf : (kv a b).formed Tryd.prog 38 = true := by
    simp only [kv, Value.formed, Tryd.underlying38, c2]; rfl
  unfold keyOf
  simp only [Tryd.underlying38]
  rw [hk, hf, hd]
  simp [Program.keyLits, Tryd.underlying38, Tryd.underlying3, c1, c2, kv, Value.cells, hwa, hwb, List.range, List.range.loop]
/-- Tiles that are read: their struct, their map. -/
def Tt (T m n : Nat) (es : Array MapEntry) (clock : Nat) (w : World) : Prop := (Chunk.box T 57 [.map (some m), .int .i64 (n : Int)]).sat w ∧ w.heap[m]? = some (.map es clock)
theorem none_fn (T m n : Nat) (es : Array MapEntry) (clock : Nat) (hF : ∀ w, F w → Tt T m n es clock w) : PureFn Tryd.prog Gl 115 [.pointer (some ⟨T, 0, none⟩)] F (.bool false) := by
  refine FnSpec.intro Tryd.func115 rfl Tryd.ntmps115 rfl fun X M w => ?_
  refine JC.seq fun K1 hK1 => ?_
  refine JC.region ?_
  refine J.yl (y_assign rfl rfl) rfl rfl rfl ?_
  refine J.nil ?_
  refine JQ.next hK1 ?_
  refine JC.seq fun K2 hK2 => ?_
  refine JC.region ?_
  refine J.yl (y_move rfl rfl) rfl rfl rfl ?_
  refine J.yl ((y_pnil rfl Tryd.underlying39 rfl rfl).to rfl) rfl rfl rfl ?_
  refine J.yl (y_move rfl rfl) rfl rfl rfl ?_
  refine J.gyes (y_move rfl rfl) rfl rfl rfl rfl rfl rfl ?_
  refine J.gyes (y_nilp rfl rfl) rfl rfl rfl rfl rfl rfl ?_
  refine J.gyes (y_fb rfl Tb.fo57_0 rfl) rfl rfl rfl rfl rfl rfl ?_
  refine J.gyes (y_load1 rfl Tb.ag55 rfl (fun w hs => cell_box (hF w hs.fact).1 rfl)) rfl rfl rfl rfl rfl rfl ?_
  refine J.gyes ((y_mnil rfl Tryd.underlying55 rfl rfl).to rfl) rfl rfl rfl rfl rfl rfl ?_
  refine J.yl (y_pick rfl rfl (fun h => by cases h) (fun _ => rfl)) rfl rfl rfl ?_
  refine J.yl (y_assign rfl rfl) rfl rfl rfl ?_
  refine J.nil ?_
  refine JQ.next hK2 ?_
  refine JC.ret ?_
  exact ret1 rfl (r_tmp rfl) fun w hs => Post.pure hs
theorem fillK2 (a b : Int) : Instr.fill (fun i => some (i * 1, 1)) #[.int .i64 0, .int .i64 0] [(0, .int .i64 a), (1, .int .i64 b)] = some #[.int .i64 a, .int .i64 b] := fill_all [.int .i64 a, .int .i64 b] 0 [] [.int .i64 0, .int .i64 0] (by
  intro v hv
  simp only [List.mem_cons, List.not_mem_nil, or_false] at hv
  rcases hv with rfl | rfl <;> rfl) rfl rfl
/-- Whether so many leaves are there. -/
def wthE (n : Nat) (z : Int) : Int := if z < 0 ∨ (n : Int) < z then 82 else 0
theorem within_fn (T m n : Nat) (es : Array MapEntry) (clock : Nat) (z : Int) (hF : ∀ w, F w → Tt T m n es clock w) : PureFn Tryd.prog Gl 116 [.pointer (some ⟨T, 0, none⟩), .int .i64 z] F (.int .i64 (wthE n z)) := by
  refine FnSpec.intro Tryd.func116 rfl Tryd.ntmps116 rfl fun X M w => ?_
  refine JC.seq fun K1 hK1 => ?_
  refine JC.region ?_
  refine J.yl (y_assign rfl rfl) rfl rfl rfl ?_
  refine J.nil ?_
  refine JQ.next hK1 ?_
  refine JC.seq fun K2 hK2 => ?_
  refine JC.block ?_
  refine JC.seq fun K3 hK3 => ?_
  refine JC.region ?_
  refine J.yl (y_move rfl rfl) rfl rfl rfl ?_
  refine J.callv rfl rfl rfl rfl Tb.cl115 rfl (none_fn T m n es clock (fun w h => hF w h.1)) ?_
  refine J.yl (y_assign rfl rfl) rfl rfl rfl ?_
  refine J.nil ?_
  refine JQ.next hK3 ?_
  refine JC.no rfl ?_
  refine JC.seq fun K4 hK4 => ?_
  refine JC.region ?_
  refine J.yl (y_move rfl rfl) rfl rfl rfl ?_
  refine J.ylp (y_lt rfl rfl rfl) rfl rfl rfl (fun h1 => ?_) (fun h1 => ?_)
  · refine J.yl (y_move rfl rfl) rfl rfl rfl ?_
    refine J.gno (b := true) rfl rfl rfl rfl rfl rfl ?_
    refine J.gno (b := true) rfl rfl rfl rfl rfl rfl ?_
    refine J.gno (b := true) rfl rfl rfl rfl rfl rfl ?_
    refine J.gno (b := true) rfl rfl rfl rfl rfl rfl ?_
    refine J.gno (b := true) rfl rfl rfl rfl rfl rfl ?_
    refine J.gno (b := true) rfl rfl rfl rfl rfl rfl ?_
    refine J.yl (y_pick rfl rfl (fun _ => rfl) (fun h => by cases h)) rfl rfl rfl ?_
    refine J.yl (y_assign rfl rfl) rfl rfl rfl ?_
    refine J.nil ?_
    refine JQ.next hK4 ?_
    refine JC.yes rfl ?_
    refine JC.seq fun K5 hK5 => ?_
    refine JC.region ?_
    refine J.yl (y_assign rfl rfl) rfl rfl rfl ?_
    refine J.nil ?_
    refine JQ.next hK5 ?_
    refine JC.ret ?_
    refine JQ.block_ret (JQ.then_ret ?_)
    exact ret1 rfl (r_tmp rfl) fun w hs => by rw [show wthE n z = 82 from if_pos (.inl h1)]; exact Post.pure hs
  · refine J.yl (y_move rfl rfl) rfl rfl rfl ?_
    refine J.gyes (y_move rfl rfl) rfl rfl rfl rfl rfl rfl ?_
    refine J.gyes (y_move rfl rfl) rfl rfl rfl rfl rfl rfl ?_
    refine J.gyes (y_nilp rfl rfl) rfl rfl rfl rfl rfl rfl ?_
    refine J.gyes (y_fb rfl Tb.fo57_1 rfl) rfl rfl rfl rfl rfl rfl ?_
    refine J.gyes (y_load1 rfl Tb.ag3 rfl (fun w hs => cell_box (hF w hs.fact).1 rfl)) rfl rfl rfl rfl rfl rfl ?_
    refine J.gyes (y_gt rfl rfl rfl) rfl rfl rfl rfl rfl rfl ?_
    refine J.yl (y_pick rfl rfl (fun h => by cases h) (fun _ => rfl)) rfl rfl rfl ?_
    refine J.yl (y_assign rfl rfl) rfl rfl rfl ?_
    refine J.nil ?_
    refine JQ.next hK4 ?_
    refine JC.condp rfl (fun h2 => ?_) (fun h2 => ?_)
    · refine JC.seq fun K6 hK6 => ?_
      refine JC.region ?_
      refine J.yl (y_assign rfl rfl) rfl rfl rfl ?_
      refine J.nil ?_
      refine JQ.next hK6 ?_
      refine JC.ret ?_
      refine JQ.block_ret (JQ.then_ret ?_)
      exact ret1 rfl (r_tmp rfl) fun w hs => by rw [show wthE n z = 82 from if_pos (.inr h2)]; exact Post.pure hs
    · refine JC.skip ?_
      refine JQ.block_normal (JQ.next hK2 ?_)
      refine JC.seq fun K7 hK7 => ?_
      refine JC.region ?_
      refine J.yl (y_assign rfl rfl) rfl rfl rfl ?_
      refine J.nil ?_
      refine JQ.next hK7 ?_
      refine JC.ret ?_
      exact ret1 rfl (r_tmp rfl) fun w hs => by rw [show wthE n z = 0 from if_neg (by omega)]; exact Post.pure hs
theorem size_fn (T m n : Nat) (es : Array MapEntry) (clock : Nat) (hF : ∀ w, F w → Tt T m n es clock w) : PureFn Tryd.prog Gl 43 [.pointer (some ⟨T, 0, none⟩)] F (.int .i64 (n : Int)) := by
  refine FnSpec.intro Tryd.func43 rfl Tryd.ntmps43 rfl fun X M w => ?_
  refine JC.seq fun K1 hK1 => ?_
  refine JC.region ?_
  refine J.yl (y_assign rfl rfl) rfl rfl rfl ?_
  refine J.nil ?_
  refine JQ.next hK1 ?_
  refine JC.seq fun K2 hK2 => ?_
  refine JC.seq fun K3 hK3 => ?_
  refine JC.region ?_
  refine J.yl (y_move rfl rfl) rfl rfl rfl ?_
  refine J.callv rfl rfl rfl rfl Tb.cl115 rfl (none_fn T m n es clock (fun w h => hF w h.1)) ?_
  refine J.nil ?_
  refine JQ.next hK3 ?_
  refine JC.no rfl ?_
  refine JC.skip ?_
  refine JQ.next hK2 ?_
  refine JC.seq fun K4 hK4 => ?_
  refine JC.region ?_
  refine J.yl (y_move rfl rfl) rfl rfl rfl ?_
  refine J.yl (y_nilp rfl rfl) rfl rfl rfl ?_
  refine J.yl (y_fb rfl Tb.fo57_1 rfl) rfl rfl rfl ?_
  refine J.yl (y_load1 rfl Tb.ag3 rfl (fun w hs => cell_box (hF w hs.fact).1 rfl)) rfl rfl rfl ?_
  refine J.yl (y_assign rfl rfl) rfl rfl rfl ?_
  refine J.nil ?_
  refine JQ.next hK4 ?_
  refine JC.ret ?_
  exact ret1 rfl (r_tmp rfl) fun w hs => Post.pure hs
theorem tnode_fn (T m n : Nat) (es : Array MapEntry) (clock : Nat) (f : Int → Int → Option H) (hM : Mp es f) (a b : Int) (ha : in64 a) (hb : in64 b) (hF : ∀ w, F w → Tt T m n es clock w) : PureFn Tryd.prog Gl 33 [.pointer (some ⟨T, 0, none⟩), .int .i64 a, .int .i64 b] F (.tuple #[hv ((f a b).getD H.zero), .bool (f a b).isSome]) := by
  refine FnSpec.intro Tryd.func33 rfl Tryd.ntmps33 rfl fun X M w => ?_
  refine JC.seq fun K1 hK1 => ?_
  refine JC.region ?_
  refine J.alloc rfl rfl rfl rfl Tb.zz30 rfl fun g6 => ?_
  refine J.yl (y_assign rfl rfl) rfl rfl rfl ?_
  refine J.nil ?_
  refine JQ.next hK1 ?_
  refine JC.seq fun K2 hK2 => ?_
  refine JC.seq fun K3 hK3 => ?_
  refine JC.region ?_
  refine J.yl (y_move rfl rfl) rfl rfl rfl ?_
  refine J.callv rfl rfl rfl rfl Tb.cl115 rfl (none_fn T m n es clock (fun w h => hF w h.1)) ?_
  refine J.nil ?_
  refine JQ.next hK3 ?_
  refine JC.no rfl ?_
  refine JC.skip ?_
  refine JQ.next hK2 ?_
  refine JC.seq fun K4 hK4 => ?_
  refine JC.region ?_
  refine J.yl (y_move rfl rfl) rfl rfl rfl ?_
  refine J.yl (y_nilp rfl rfl) rfl rfl rfl ?_
  refine J.yl (y_fb rfl Tb.fo57_0 rfl) rfl rfl rfl ?_
  refine J.yl (y_load1 rfl Tb.ag55 rfl (fun w hs => cell_box (hF w hs.fact).1 rfl)) rfl rfl rfl ?_
  refine J.yl (y_move rfl rfl) rfl rfl rfl ?_
  refine J.yl (y_move rfl rfl) rfl rfl rfl ?_
  refine J.yl (y_buildA (cs := [.int .i64 a, .int .i64 b]) rfl Tryd.underlying38 Tb.zz38 Tb.sz3 rfl (fillK2 a b)) rfl rfl rfl ?_
  refine J.yl (y_look2 (a := a) (b := b) mkKey rfl Tryd.underlying55 Tb.zz30 rfl rfl ha hb hM (fun w hs => (hF w hs.fact).2)) rfl rfl rfl ?_
  refine J.yl (y_move rfl rfl) rfl rfl rfl ?_
  refine J.yl (y_extract rfl rfl rfl) rfl rfl rfl ?_
  refine J.yl (y_extract rfl rfl rfl) rfl rfl rfl ?_
  refine J.alloc rfl rfl rfl rfl Tb.zz30 rfl fun g8 => ?_
  refine J.storeW 0 rfl rfl rfl rfl rfl rfl rfl Tb.sz30 (hcl _) (hcl _) (hc1 _) ?_
  refine J.yl (y_assign rfl rfl) rfl rfl rfl ?_
  refine J.nil ?_
  refine JQ.next hK4 ?_
  refine JC.seq fun K5 hK5 => ?_
  refine JC.region ?_
  refine J.yl (y_lbW 0 rfl Tb.ag30 Tb.sz30 (hcl _) rfl rfl) rfl rfl rfl ?_
  refine J.yl (y_move rfl rfl) rfl rfl rfl ?_
  refine J.storeW 1 rfl rfl rfl rfl rfl rfl rfl Tb.sz30 (hcl _) (hcl _) (hc1 _) ?_
  refine J.yl (y_assign rfl rfl) rfl rfl rfl ?_
  refine J.nil ?_
  refine JQ.next hK5 ?_
  refine JC.ret ?_
  exact ret2 rfl (r_cellA 1 rfl rfl Tb.ag30 (by rw [hcl]; exact Tb.sz30)) (r_tmp rfl) fun w hs => Post.pure hs
end Go.Proofs.YtjkfeonbioccmaaDoor
namespace Go.Proofs.YtjkfeonbioccmaaDoor
open Go Go.Sx Go.RowKit
set_option linter.unusedVariables false
set_option linter.unusedSimpArgs false
set_option maxRecDepth 100000
set_option maxHeartbeats 2000000
variable {Gl F : World → Prop}
theorem dvd_low {i q c : Nat} (h : i % 2 ^ c = 0) (hq : q ≤ c) : i % 2 ^ q = 0 := Nat.mod_eq_zero_of_dvd (Nat.dvd_trans (Nat.pow_dvd_pow 2 hq) (Nat.dvd_of_mod_eq_zero h))
theorem troot_fn (T m n : Nat) (es : Array MapEntry) (clock : Nat) (l : List H) (hM : Mp es (tile l)) (hn : l.length = n) (hN : n ≤ 4096) : ∀ (c i j : Nat) (a b : Int), i % 2 ^ c = 0 → i ≤ j → j - i ≤ 2 ^ c → j ≤ n → a = i → b = j → ∀ F : World → Prop, (∀ w, F w → Tt T m n es clock w) →
    PureFn Tryd.prog Gs 117 [.pointer (some ⟨T, 0, none⟩), .int .i64 a, .int .i64 b] F (hv (root (seg l i j))) := by
  intro c
  induction c using Nat.strongRecOn with
  | _ c ih =>
    intro i j a b hd h1 h2 h3 ha hb F hF
    subst ha; subst hb
    refine FnSpec.intro Tryd.func117 rfl Tryd.ntmps117 rfl fun X M w => ?_
    refine JC.seq fun K1 hK1 => ?_
    refine JC.region ?_
    refine J.alloc rfl rfl rfl rfl Tb.zz30 rfl fun g6 => ?_
    refine J.nil ?_
    refine JQ.next hK1 ?_
    refine JC.seq fun K2 hK2 => ?_
    refine JC.region ?_
    refine J.yl (y_move rfl rfl) rfl rfl rfl ?_
    refine J.yl (y_move rfl rfl) rfl rfl rfl ?_
    refine J.yl (y_sub64 rfl rfl rfl (by omega)) rfl rfl rfl ?_
    refine J.yl (y_assign rfl rfl) rfl rfl rfl ?_
    refine J.nil ?_
    refine JQ.next hK2 ?_
    refine JC.seq fun K3 hK3 => ?_
    refine JC.seq fun K4 hK4 => ?_
    refine JC.region ?_
    refine J.yl (y_move rfl rfl) rfl rfl rfl ?_
    refine J.yl (y_eq rfl rfl rfl) rfl rfl rfl ?_
    refine J.nil ?_
    refine JQ.next hK4 ?_
    refine JC.condp rfl (fun h4 => ?_) (fun h4 => ?_)
    · have hr : root (seg l i j) = root [] := by
        rw [List.eq_nil_of_length_eq_zero (l := seg l i j) (by rw [seg_len _ _ _ (by omega)]; omega)]
      refine JC.seq fun K5 hK5 => ?_
      refine JC.region ?_
      refine J.callv rfl rfl rfl rfl Tb.cl30 rfl (root_spec [] none 0 0 rfl (Nat.le_refl _) (by omega) (fun w h => .inl rfl)) ?_
      refine J.storeW 0 rfl rfl rfl rfl rfl rfl rfl Tb.sz30 (hcl _) (hcl _) (hc1 _) ?_
      refine J.nil ?_
      refine JQ.next hK5 ?_
      refine JC.ret ?_
      refine JQ.then_ret ?_
      exact ret1 rfl (r_cellA 0 rfl rfl Tb.ag30 (by rw [hcl]; exact Tb.sz30)) fun w hs => by rw [hr]; exact Post.pure hs
    · refine JC.skip ?_
      refine JQ.next hK3 ?_
      refine JC.seq fun K6 hK6 => ?_
      refine JC.region ?_
      refine J.yl (y_assign rfl rfl) rfl rfl rfl ?_
      refine J.yl (y_assign rfl rfl) rfl rfl rfl ?_
      refine J.nil ?_
      refine JQ.next hK6 ?_
      refine JC.seq fun K7 hK7 => ?_
      refine JC.block ?_
      refine JC.loopE (σ := Nat) (M := fun q => [(8, .int .i64 (q : Int)), (9, .int .i64 ((2 ^ q : Nat) : Int))]) (kp := [(0, _), (1, _), (2, _), (6, _), (7, _)]) (hkp := (okE_cons rfl (okE_cons rfl (okE_cons rfl (okE_cons rfl (okE_cons rfl okE_nil)))))) (Dc := fun _ => [.box g6 30 (hc H.zero)]) (H := fun _ => F) (Ψ := fun q => q = 0 ∨ 2 ^ (q - 1) < j - i) (μ := fun q => (j - i) - 2 ^ q) 0 (.inl rfl) (okE_cons rfl (okE_cons rfl okE_nil)) (fun w h => h) (fun q hq K8 againK8 => ?_)
      refine JC.seq fun K9 hK9 => ?_
      refine JC.seq fun K10 hK10 => ?_
      refine JC.region ?_
      refine J.yl (y_move rfl rfl) rfl rfl rfl ?_
      refine J.yl (y_move rfl rfl) rfl rfl rfl ?_
      refine J.yl (y_lt rfl rfl rfl) rfl rfl rfl ?_
      refine J.nil ?_
      refine JQ.next hK10 ?_
      have hp : 0 < 2 ^ q := Nat.pow_pos (by decide)
      have e2 : 2 ^ (q + 1) = 2 ^ q * 2 := Nat.pow_succ 2 q
      have hq12 : q ≤ 5000 := by
        rcases hq with rfl | hq
        · exact Nat.zero_le _
        · have := Nat.lt_two_pow_self (n := q - 1)
          omega
      refine JC.condp rfl (fun h5 => ?_) (fun h5 => ?_)
      · refine JC.skip ?_
        refine JQ.next hK9 ?_
        refine JC.block ?_
        refine JC.region ?_
        refine J.yl (y_move rfl rfl) rfl rfl rfl ?_
        refine J.yl (y_add64 rfl rfl rfl (by omega)) rfl rfl rfl ?_
        refine J.yl (y_move rfl rfl) rfl rfl rfl ?_
        refine J.yl (y_mul64 rfl rfl rfl (by omega)) rfl rfl rfl ?_
        refine J.yl (y_assign rfl rfl) rfl rfl rfl ?_
        refine J.yl (y_assign rfl rfl) rfl rfl rfl ?_
        refine J.nil ?_
        refine JQ.block_normal ?_
        refine againK8 (q + 1) _ (.inr (by rw [Nat.add_sub_cancel]; omega)) (by omega) (okE_cons (slotI (by omega)) (okE_cons (slotI (by omega)) okE_nil)) (okE_cons rfl (okE_cons rfl (okE_cons rfl (okE_cons rfl (okE_cons rfl okE_nil)))))
      · have hqc : q ≤ c := by
          rcases hq with rfl | hq
          · exact Nat.zero_le _
          · have : 2 ^ (q - 1) < 2 ^ c := by omega
            have := (Nat.pow_lt_pow_iff_right (show 1 < 2 by decide)).1 this
            omega
        refine JC.exit ?_
        refine JQ.then_exit (JQ.then_exit (JQ.block_hit (JQ.next hK7 ?_)))
        refine JC.seq fun K11 hK11 => ?_
        refine JC.seq fun K12 hK12 => ?_
        refine JC.region ?_
        refine J.yl (y_move rfl rfl) rfl rfl rfl ?_
        refine J.yl (y_move rfl rfl) rfl rfl rfl ?_
        refine J.yl (y_eq rfl rfl rfl) rfl rfl rfl ?_
        refine J.nil ?_
        refine JQ.next hK12 ?_
        refine JC.condp rfl (fun h6 => ?_) (fun h6 => ?_)
        · have hlook : tile l (q : Int) ((i : Int) / ((2 ^ q : Nat) : Int)) = some (root (seg l i j)) := by
            rw [← Int.natCast_ediv, root_whole l i q (dvd_low hd hqc) (by omega), show i + 2 ^ q = j by omega]
          have hdl := Nat.div_le_self i (2 ^ q)
          have hdi : (i : Int) / ((2 ^ q : Nat) : Int) = ((i / 2 ^ q : Nat) : Int) := (Int.natCast_ediv _ _).symm
          have hb64 : in64 ((i : Int) / ((2 ^ q : Nat) : Int)) := by
            generalize hdd : i / 2 ^ q = d at hdl hdi
            rw [hdi]
            exact ⟨by omega, by omega⟩
          refine JC.seq fun K13 hK13 => ?_
          refine JC.drawM [false] (by kernel_rfl) ?_
          refine D.take 0 (y_move rfl rfl) rfl rfl rfl rfl (by kernel_rfl) (by kernel_rfl) (by kernel_rfl) (PQ.next (PQ.next PQ.body)) ?_
          refine D.take 1 (y_nilp rfl rfl) rfl rfl rfl rfl (by kernel_rfl) (by kernel_rfl) (by kernel_rfl) (PQ.next (PQ.next PQ.body)) ?_
          refine D.take 2 (y_fb rfl Tb.fo57_0 rfl) rfl rfl rfl rfl (by kernel_rfl) (by kernel_rfl) (by kernel_rfl) (PQ.next (PQ.next PQ.body)) ?_
          refine D.take 4 (y_move rfl rfl) rfl rfl rfl rfl (by kernel_rfl) (by kernel_rfl) (by kernel_rfl) (PQ.next (PQ.next PQ.body)) ?_
          refine D.take 5 (y_move rfl rfl) rfl rfl rfl rfl (by kernel_rfl) (by kernel_rfl) (by kernel_rfl) (PQ.next (PQ.next PQ.body)) ?_
          refine D.take 6 (y_move rfl rfl) rfl rfl rfl rfl (by kernel_rfl) (by kernel_rfl) (by kernel_rfl) (PQ.next (PQ.next PQ.body)) ?_
          refine D.take 7 (y_quo64 rfl rfl rfl (by omega)) rfl rfl rfl rfl (by kernel_rfl) (by kernel_rfl) (by kernel_rfl) (PQ.next (PQ.next PQ.body)) ?_
          refine D.take 3 (y_load1 rfl Tb.ag55 rfl (fun w hs => cell_box (hF w hs.fact).1 rfl)) rfl rfl rfl rfl (by kernel_rfl) (by kernel_rfl) (by kernel_rfl) (PQ.next (PQ.next PQ.body)) ?_
          refine D.take 8 (y_buildA (cs := [.int .i64 (q : Int), .int .i64 ((i : Int) / ((2 ^ q : Nat) : Int))]) rfl Tryd.underlying38 Tb.zz38 Tb.sz3 rfl (fillK2 _ _)) rfl rfl rfl rfl (by kernel_rfl) (by kernel_rfl) (by kernel_rfl) (PQ.next (PQ.next PQ.body)) ?_
          refine D.take 9 ((y_look1 (a := (q : Int)) (b := (i : Int) / ((2 ^ q : Nat) : Int)) mkKey rfl Tryd.underlying55 Tb.zz30 rfl rfl ⟨by omega, by omega⟩ hb64 hM (fun w hs => (hF w hs.fact).2)).to (by rw [hlook])) rfl rfl rfl rfl (by kernel_rfl) (by kernel_rfl) (by kernel_rfl) (PQ.next (PQ.next PQ.body)) ?_
          refine D.ofJ 10 (by kernel_rfl) rfl fun KhK14 hK14 => ?_
          refine J.storeW 0 rfl rfl rfl rfl rfl rfl rfl Tb.sz30 (hcl _) (hcl _) (hc1 _) ?_
          refine J.nil ?_
          refine hK14 _ _ _ (fun w hs => hs.mask [false]) ?_
          refine D.done (by kernel_rfl) ?_
          refine JQ.next hK13 ?_
          refine JC.ret ?_
          refine JQ.then_ret ?_
          exact ret1 rfl (r_cellA 0 rfl rfl Tb.ag30 (by rw [hcl]; exact Tb.sz30)) fun w hs => Post.pure hs
        · have hq0 : q ≠ 0 := by
            rintro rfl
            simp only [Nat.pow_zero] at h5 h6
            omega
          obtain ⟨p, rfl⟩ := Nat.exists_eq_succ_of_ne_zero hq0
          have e3 : 2 ^ (p + 1) = 2 ^ p * 2 := Nat.pow_succ 2 p
          have hpp : 0 < 2 ^ p := Nat.pow_pos (by decide)
          have hlt : 2 ^ p < j - i := by
            rcases hq with hq | hq
            · omega
            · simpa using hq
          have hup : j - i < 2 ^ (p + 1) := by
            have h5' := h5; have h6' := h6
            simp only [Nat.succ_eq_add_one] at h5' h6'
            omega
          have hdp := dvd_low hd (show p ≤ c by omega)
          have hrp := root_parts l i j p (by omega) (by omega) (by omega)
          refine JC.skip ?_
          refine JQ.next hK11 ?_
          refine JC.seq fun K15 hK15 => ?_
          refine JC.region ?_
          refine J.yl (y_move rfl rfl) rfl rfl rfl ?_
          refine J.yl (y_move rfl rfl) rfl rfl rfl ?_
          refine J.yl (y_move rfl rfl) rfl rfl rfl ?_
          refine J.yl (y_move rfl rfl) rfl rfl rfl ?_
          refine J.yl (y_quo64 rfl rfl rfl (by omega)) rfl rfl rfl ?_
          refine J.yl (y_add64 rfl rfl rfl (by omega)) rfl rfl rfl ?_
          refine J.callv rfl rfl rfl rfl Tb.cl117 rfl (ih p (by omega) i (i + 2 ^ p) _ _ hdp (by omega) (by omega) (by omega) rfl (by simp only [Nat.succ_eq_add_one]; omega) _ (fun w h => hF w h.1)) ?_
          refine J.yl (y_move rfl rfl) rfl rfl rfl ?_
          refine J.yl (y_move rfl rfl) rfl rfl rfl ?_
          refine J.yl (y_move rfl rfl) rfl rfl rfl ?_
          refine J.yl (y_quo64 rfl rfl rfl (by omega)) rfl rfl rfl ?_
          refine J.yl (y_add64 rfl rfl rfl (by omega)) rfl rfl rfl ?_
          refine J.yl (y_move rfl rfl) rfl rfl rfl ?_
          refine J.callv rfl rfl rfl rfl Tb.cl117 rfl (ih p (by omega) (i + 2 ^ p) j _ _ (by rw [Nat.add_mod_right]; exact hdp) (by omega) (by omega) (by omega) (by simp only [Nat.succ_eq_add_one]; omega) rfl _ (fun w h => hF w h.1)) ?_
          refine J.callv rfl rfl rfl rfl Tb.cl105 rfl (node_spec _ _) ?_
          refine J.storeW 0 rfl rfl rfl rfl rfl rfl rfl Tb.sz30 (hcl _) (hcl _) (hc1 _) ?_
          refine J.nil ?_
          refine JQ.next hK15 ?_
          refine JC.ret ?_
          exact ret1 rfl (r_cellA 0 rfl rfl Tb.ag30 (by rw [hcl]; exact Tb.sz30)) fun w hs => by rw [hrp]; exact Post.pure hs
def trt (l : List H) (z : Int) : H := if z < 0 ∨ (l.length : Int) < z then H.zero else root (l.take z.toNat)
theorem tRoot_fn (T m n : Nat) (es : Array MapEntry) (clock : Nat) (l : List H) (hM : Mp es (tile l)) (hn : l.length = n) (hN : n ≤ 4096) (z : Int) (hF : ∀ w, F w → Tt T m n es clock w) :
    PureFn Tryd.prog Gs 35 [.pointer (some ⟨T, 0, none⟩), .int .i64 z] F (.tuple #[hv (trt l z), .int .i64 (wthE n z)]) := by
  refine FnSpec.intro Tryd.func35 rfl Tryd.ntmps35 rfl fun X M w => ?_
  refine JC.seq fun K1 hK1 => ?_
  refine JC.region ?_
  refine J.alloc rfl rfl rfl rfl Tb.zz30 rfl fun g4 => ?_
  refine J.yl (y_assign rfl rfl) rfl rfl rfl ?_
  refine J.nil ?_
  refine JQ.next hK1 ?_
  refine JC.seq fun K2 hK2 => ?_
  refine JC.seq fun K3 hK3 => ?_
  refine JC.region ?_
  refine J.yl (y_move rfl rfl) rfl rfl rfl ?_
  refine J.yl (y_move rfl rfl) rfl rfl rfl ?_
  refine J.callv rfl rfl rfl rfl Tb.cl116 rfl (within_fn T m n es clock z (fun w h => hF w h.1)) ?_
  refine J.yl (y_assign rfl rfl) rfl rfl rfl ?_
  refine J.nil ?_
  refine JQ.next hK3 ?_
  refine JC.seq fun K4 hK4 => ?_
  refine JC.region ?_
  refine J.yl (y_move rfl rfl) rfl rfl rfl ?_
  refine J.yl (y_ne rfl rfl rfl) rfl rfl rfl ?_
  refine J.nil ?_
  refine JQ.next hK4 ?_
  refine JC.condn rfl (fun h1 => ?_) (fun h1 => ?_)
  · have hbad : z < 0 ∨ (n : Int) < z := by
      by_cases h : z < 0 ∨ (n : Int) < z
      · exact h
      · exact absurd (if_neg h) h1
    have ht : trt l z = H.zero := if_pos (by rw [hn]; exact hbad)
    refine JC.seq fun K5 hK5 => ?_
    refine JC.region ?_
    refine J.yl (y_buildA (cs := hc H.zero) rfl Tryd.underlying30 Tb.zz30 Tb.sz5 rfl rfl) rfl rfl rfl ?_
    refine J.yl (y_move rfl rfl) rfl rfl rfl ?_
    refine J.storeW 0 rfl rfl rfl rfl rfl rfl rfl Tb.sz30 (hcl _) (hcl _) (hc1 _) ?_
    refine J.yl (y_assign rfl rfl) rfl rfl rfl ?_
    refine J.nil ?_
    refine JQ.next hK5 ?_
    refine JC.ret ?_
    refine JQ.then_ret ?_
    exact ret2 rfl (r_cellA 0 rfl rfl Tb.ag30 (by rw [hcl]; exact Tb.sz30)) (r_tmp rfl) fun w hs => by rw [ht]; exact Post.pure hs
  · have hok : ¬ (z < 0 ∨ (n : Int) < z) := fun h => by
      have : wthE n z = 82 := if_pos h
      rw [this] at h1; exact absurd h1 (by decide)
    have ht : trt l z = root (seg l 0 z.toNat) := by
      rw [trt, if_neg (by rw [hn]; exact hok), seg, List.drop_zero]
    have h1 : wthE n z = 0 := if_neg hok
    refine JC.skip ?_
    refine JQ.next hK2 ?_
    refine JC.seq fun K6 hK6 => ?_
    refine JC.region ?_
    refine J.yl (y_move rfl rfl) rfl rfl rfl ?_
    refine J.yl (y_move rfl rfl) rfl rfl rfl ?_
    refine J.callv rfl rfl rfl rfl Tb.cl117 rfl (troot_fn T m n es clock l hM hn hN 12 0 z.toNat 0 z rfl (Nat.zero_le _) (by have : (2 : Nat) ^ 12 = 4096 := rfl; omega) (by omega) rfl (by omega) _ (fun w h => hF w h.1)) ?_
    refine J.storeW 0 rfl rfl rfl rfl rfl rfl rfl Tb.sz30 (hcl _) (hcl _) (hc1 _) ?_
    refine J.yl (y_assign rfl rfl) rfl rfl rfl ?_
    refine J.nil ?_
    refine JQ.next hK6 ?_
    refine JC.ret ?_
    exact ret2 rfl (r_cellA 0 rfl rfl Tb.ag30 (by rw [hcl]; exact Tb.sz30)) (r_tmp rfl) fun w hs => by rw [ht, h1]; exact Post.pure hs
def tpth (l : List H) (i z : Int) : List H := if z < 0 ∨ (l.length : Int) < z ∨ i < 0 ∨ z ≤ i then [] else path (l.take z.toNat) i.toNat
def tpthE (l : List H) (i z : Int) : Int := if z < 0 ∨ (l.length : Int) < z ∨ i < 0 ∨ z ≤ i then 82 else 0
end Go.Proofs.YtjkfeonbioccmaaDoor
namespace Go.Proofs.YtjkfeonbioccmaaDoor
open Go Go.Sx Go.RowKit
set_option linter.unusedVariables false
set_option linter.unusedSimpArgs false
set_option maxRecDepth 100000
set_option maxHeartbeats 2000000
variable {Gl F : World → Prop}
/-- Where the splits lead: a half is whole, and stands at a multiple of its size. -/
theorem split_at {a b c : Nat} (h : a % 2 ^ c = 0) (h2 : 2 ≤ b - a) (hb : b - a ≤ 2 ^ c) : ∃ j, split (b - a) = 2 ^ j ∧ j < c ∧ a % 2 ^ j = 0 ∧ (a + 2 ^ j) % 2 ^ j = 0 ∧ 0 < 2 ^ j ∧ 2 ^ j < b - a ∧ b - a ≤ 2 * 2 ^ j := by
  obtain ⟨j, hj⟩ := split_pow h2
  have hs := split_spec h2
  rw [hj] at hs
  have hjc : j < c := (Nat.pow_lt_pow_iff_right (show 1 < 2 by decide)).1 (show 2 ^ j < 2 ^ c by omega)
  have hd := dvd_low h (show j ≤ c by omega)
  exact ⟨j, hj, hjc, hd, by rw [Nat.add_mod_right]; exact hd, hs.1, hs.2.1, hs.2.2⟩
theorem tPath_fn (T m n : Nat) (es : Array MapEntry) (clock : Nat) (l : List H) (hM : Mp es (tile l)) (hn : l.length = n) (hN : n ≤ 4096) (i z : Int) (hF : ∀ w, F w → Tt T m n es clock w) :
    FnSpec Tryd.prog Gs 37 [.pointer (some ⟨T, 0, none⟩), .int .i64 i, .int .i64 z] [] F (ι := Option Addr × Nat) (fun q => (tpth l i z).length ≤ q.2) (fun q => .tuple #[.slice q.1 (tpth l i z).length q.2, .int .i64 (tpthE l i z)]) (OwnL (tpth l i z)) (fun _ _ => True) := by
  have hbad : z < 0 ∨ (n : Int) < z ∨ i < 0 ∨ z ≤ i → tpth l i z = [] ∧ tpthE l i z = 82 := fun h => ⟨if_pos (by rw [hn]; exact h), if_pos (by rw [hn]; exact h)⟩
  refine FnSpec.intro Tryd.func37 rfl Tryd.ntmps37 rfl fun X M w => ?_
  refine JC.seq fun K1 hK1 => ?_
  refine JC.region ?_
  refine J.yl (y_assign rfl rfl) rfl rfl rfl ?_
  refine J.yl (y_assign rfl rfl) rfl rfl rfl ?_
  refine J.nil ?_
  refine JQ.next hK1 ?_
  refine JC.seq fun K2 hK2 => ?_
  refine JC.region ?_
  refine J.yl (y_move rfl rfl) rfl rfl rfl ?_
  refine J.yl (y_move rfl rfl) rfl rfl rfl ?_
  refine J.callv rfl rfl rfl rfl Tb.cl116 rfl (within_fn T m n es clock z (fun w h => hF w h.1)) ?_
  refine J.yl (y_assign rfl rfl) rfl rfl rfl ?_
  refine J.nil ?_
  refine JQ.next hK2 ?_
  refine JC.seq fun K3 hK3 => ?_
  refine JC.block ?_
  refine JC.seq fun K4 hK4 => ?_
  refine JC.region ?_
  refine J.yl (y_move rfl rfl) rfl rfl rfl ?_
  refine J.yl (y_ne rfl rfl rfl) rfl rfl rfl ?_
  refine J.yl (y_assign rfl rfl) rfl rfl rfl ?_
  refine J.nil ?_
  refine JQ.next hK4 ?_
  refine JC.condn rfl (fun h1 => ?_) (fun h1 => ?_)
  · have hz : z < 0 ∨ (n : Int) < z := by
      by_cases h : z < 0 ∨ (n : Int) < z
      · exact h
      · exact absurd (if_neg h) h1
    have hE : wthE n z = 82 := if_pos hz
    obtain ⟨hb1, hb2⟩ := hbad (by omega)
    refine JC.seq fun K5 hK5 => ?_
    refine JC.region ?_
    refine J.yl (y_move rfl rfl) rfl rfl rfl ?_
    refine J.yl (y_assign rfl rfl) rfl rfl rfl ?_
    refine J.yl (y_assign rfl rfl) rfl rfl rfl ?_
    refine J.nil ?_
    refine JQ.next hK5 ?_
    refine JC.ret ?_
    refine JQ.block_ret (JQ.then_ret ?_)
    refine JQ.st ?_ (fun w hs => hs.nilrow 30 32)
    exact ret2 rfl (r_tmp rfl) (r_tmp rfl) fun w hs => by rw [hb1, hb2, hE]; exact Post.of_st hs (none, 0) (Nat.le_refl _) (List.Sublist.refl _) fun _ _ => trivial
  · have hok : ¬ (z < 0 ∨ (n : Int) < z) := fun h => by
      have : wthE n z = 82 := if_pos h
      rw [this] at h1; exact absurd h1 (by decide)
    refine JC.seq fun K6 hK6 => ?_
    refine JC.region ?_
    refine J.yl (y_move rfl rfl) rfl rfl rfl ?_
    refine J.ylp (y_lt rfl rfl rfl) rfl rfl rfl (fun h2 => ?_) (fun h2 => ?_)
    · obtain ⟨hb1, hb2⟩ := hbad (by omega)
      refine J.yl (y_move rfl rfl) rfl rfl rfl ?_
      refine J.gno (b := true) rfl rfl rfl rfl rfl rfl ?_
      refine J.gno (b := true) rfl rfl rfl rfl rfl rfl ?_
      refine J.gno (b := true) rfl rfl rfl rfl rfl rfl ?_
      refine J.yl (y_pick rfl rfl (fun _ => rfl) (fun h => by cases h)) rfl rfl rfl ?_
      refine J.yl (y_assign rfl rfl) rfl rfl rfl ?_
      refine J.nil ?_
      refine JQ.next hK6 ?_
      refine JC.yes rfl ?_
      refine JC.seq fun K7 hK7 => ?_
      refine JC.region ?_
      refine J.yl (y_assign rfl rfl) rfl rfl rfl ?_
      refine J.yl (y_assign rfl rfl) rfl rfl rfl ?_
      refine J.nil ?_
      refine JQ.next hK7 ?_
      refine JC.ret ?_
      refine JQ.block_ret (JQ.then_ret ?_)
      refine JQ.st ?_ (fun w hs => hs.nilrow 30 32)
      exact ret2 rfl (r_tmp rfl) (r_tmp rfl) fun w hs => by rw [hb1, hb2]; exact Post.of_st hs (none, 0) (Nat.le_refl _) (List.Sublist.refl _) fun _ _ => trivial
    · refine J.yl (y_move rfl rfl) rfl rfl rfl ?_
      refine J.gyes (y_move rfl rfl) rfl rfl rfl rfl rfl rfl ?_
      refine J.gyes (y_move rfl rfl) rfl rfl rfl rfl rfl rfl ?_
      refine J.gyes (y_ge rfl rfl rfl) rfl rfl rfl rfl rfl rfl ?_
      refine J.yl (y_pick rfl rfl (fun h => by cases h) (fun _ => rfl)) rfl rfl rfl ?_
      refine J.yl (y_assign rfl rfl) rfl rfl rfl ?_
      refine J.nil ?_
      refine JQ.next hK6 ?_
      refine JC.condp rfl (fun h3 => ?_) (fun h3 => ?_)
      · obtain ⟨hb1, hb2⟩ := hbad (by omega)
        refine JC.seq fun K8 hK8 => ?_
        refine JC.region ?_
        refine J.yl (y_assign rfl rfl) rfl rfl rfl ?_
        refine J.yl (y_assign rfl rfl) rfl rfl rfl ?_
        refine J.nil ?_
        refine JQ.next hK8 ?_
        refine JC.ret ?_
        refine JQ.block_ret (JQ.then_ret ?_)
        refine JQ.st ?_ (fun w hs => hs.nilrow 30 32)
        exact ret2 rfl (r_tmp rfl) (r_tmp rfl) fun w hs => by rw [hb1, hb2]; exact Post.of_st hs (none, 0) (Nat.le_refl _) (List.Sublist.refl _) fun _ _ => trivial
      · obtain ⟨i, rfl⟩ : ∃ q : Nat, i = q := ⟨i.toNat, by omega⟩
        obtain ⟨z, rfl⟩ : ∃ q : Nat, z = q := ⟨z.toNat, by omega⟩
        have hp : tpth l i z = path (seg l 0 z) i := by
          rw [tpth, if_neg (by omega), Int.toNat_natCast, Int.toNat_natCast, seg, List.drop_zero]
        have hE : tpthE l i z = 0 := by rw [tpthE, if_neg (by omega)]
        refine JC.skip ?_
        refine JQ.block_normal (JQ.next hK3 ?_)
        refine JC.seq fun K9 hK9 => ?_
        refine JC.region ?_
        refine J.yl (y_assign rfl rfl) rfl rfl rfl ?_
        refine J.nil ?_
        refine JQ.next hK9 ?_
        refine JC.seq fun K10 hK10 => ?_
        refine JC.seq fun K11 hK11 => ?_
        refine JC.region ?_
        refine J.yl (y_move rfl rfl) rfl rfl rfl ?_
        refine J.yl (y_assign rfl rfl) rfl rfl rfl ?_
        refine J.yl (y_assign rfl rfl) rfl rfl rfl ?_
        refine J.nil ?_
        refine JQ.next hK11 ?_
        refine JC.block ?_
        refine JC.st ?_ (fun w hs => hs.nilrow 30 32)
        refine JC.loopE (σ := Nat × Nat × List H × Option Addr × Nat) (M := fun q => [(9, .slice q.2.2.2.1 q.2.2.1.length q.2.2.2.2), (10, .int .i64 (q.1 : Int)), (11, .int .i64 (q.2.1 : Int))]) (kp := [(0, _), (1, _)]) (hkp := (okE_cons rfl (okE_cons rfl okE_nil))) (Dc := fun q => [.row (.slice q.2.2.2.1 q.2.2.1.length q.2.2.2.2) 30 32 q.2.2.1.length (hcs q.2.2.1)]) (H := fun _ => F) (Ψ := fun q => q.1 ≤ i ∧ i < q.2.1 ∧ q.2.1 ≤ z ∧ path (seg l 0 z) i = path (seg l q.1 q.2.1) (i - q.1) ++ q.2.2.1 ∧ q.2.2.1.length ≤ q.2.2.2.2 ∧ q.2.2.1.length + (q.2.1 - q.1) ≤ z ∧ ∃ c, q.1 % 2 ^ c = 0 ∧ q.2.1 - q.1 ≤ 2 ^ c) (μ := fun q => q.2.1 - q.1) (0, z, [], none, 0) ⟨by dsimp only; omega, by dsimp only; omega, by dsimp only; omega, by simp, Nat.le_refl _, by simp, 12, rfl, by have : (2 : Nat) ^ 12 = 4096 := rfl; dsimp only; omega⟩ (okE_cons rfl (okE_cons rfl (okE_cons rfl okE_nil))) (fun w h => h) (fun sK12 hK12 K12 againK12 => ?_)
        obtain ⟨a, b, out, A, k⟩ := sK12
        dsimp only at hK12 againK12 ⊢
        obtain ⟨ha, hb, hbz, hpa, hko, hlo, c, hcd, hcb⟩ := hK12
        refine JC.seq fun K13 hK13 => ?_
        refine JC.seq fun K14 hK14 => ?_
        refine JC.region ?_
        refine J.yl (y_move rfl rfl) rfl rfl rfl ?_
        refine J.yl (y_move rfl rfl) rfl rfl rfl ?_
        refine J.yl (y_sub64 rfl rfl rfl (by omega)) rfl rfl rfl ?_
        refine J.yl (y_gt rfl rfl rfl) rfl rfl rfl ?_
        refine J.nil ?_
        refine JQ.next hK14 ?_
        refine JC.condp rfl (fun h4 => ?_) (fun h4 => ?_)
        · obtain ⟨j, hj, hjc, hd1, hd2, hj0, hj1, hj2⟩ := split_at hcd (show 2 ≤ b - a by omega) hcb
          refine JC.skip ?_
          refine JQ.next hK13 ?_
          refine JC.block ?_
          refine JC.seq fun K15 hK15 => ?_
          refine JC.region ?_
          refine J.yl (y_move rfl rfl) rfl rfl rfl ?_
          refine J.yl (y_move rfl rfl) rfl rfl rfl ?_
          refine J.yl (y_move rfl rfl) rfl rfl rfl ?_
          refine J.yl (y_sub64 rfl rfl rfl (by omega)) rfl rfl rfl ?_
          refine J.callv rfl rfl rfl rfl Tb.cl107 rfl ((split_fn (b - a) _ (by omega) (by omega)).to (by rw [hj])) ?_
          refine J.yl (y_add64 rfl rfl rfl (by omega)) rfl rfl rfl ?_
          refine J.yl (y_assign rfl rfl) rfl rfl rfl ?_
          refine J.nil ?_
          refine JQ.next hK15 ?_
          refine JC.seq fun K16 hK16 => ?_
          refine JC.region ?_
          refine J.yl (y_move rfl rfl) rfl rfl rfl ?_
          refine J.yl (y_move rfl rfl) rfl rfl rfl ?_
          refine J.yl (y_move rfl rfl) rfl rfl rfl ?_
          refine J.callv rfl rfl rfl rfl Tb.cl117 rfl (troot_fn T m n es clock l hM hn hN j (a + 2 ^ j) b _ _ hd2 (by omega) (by omega) (by omega) (by omega) rfl _ (fun w h => hF w h.1)) ?_
          refine J.alloc rfl rfl rfl rfl Tb.zz30 rfl fun g13 => ?_
          refine J.storeW 0 rfl rfl rfl rfl rfl rfl rfl Tb.sz30 (hcl _) (hcl _) (hc1 _) ?_
          refine J.nil ?_
          refine JQ.next hK16 ?_
          refine JC.seq fun K17 hK17 => ?_
          refine JC.seq fun K18 hK18 => ?_
          refine JC.region ?_
          refine J.yl (y_move rfl rfl) rfl rfl rfl ?_
          refine J.yl (y_move rfl rfl) rfl rfl rfl ?_
          refine J.yl (y_lt rfl rfl rfl) rfl rfl rfl ?_
          refine J.nil ?_
          refine JQ.next hK18 ?_
          refine JC.condp rfl (fun h5 => ?_) (fun h5 => ?_)
          · have hst := path_seg_l l a b i (by omega) (by omega) ha (by omega)
            rw [hj] at hst
            refine JC.region ?_
            refine J.yl (y_move rfl rfl) rfl rfl rfl ?_
            refine J.yl (y_assign rfl rfl) rfl rfl rfl ?_
            refine J.nil ?_
            refine JQ.next hK17 ?_
            refine JC.region ?_
            refine J.yl (y_lbW 0 rfl Tb.ag30 Tb.sz30 (hcl _) rfl rfl) rfl rfl rfl ?_
            refine J.bsN (cs := hcs ([root (seg l (a + 2 ^ j) b)])) ([root (seg l (a + 2 ^ j) b)]) hv hc hv_cells hcl rfl rfl rfl rfl rfl rfl Tryd.underlying22 Tb.zz30 Tb.sz30 rfl rfl fun g54 => ?_
            refine J.yl (y_move rfl rfl) rfl rfl rfl ?_
            refine J.append 0 rfl rfl rfl rfl rfl rfl Tryd.underlying22 Tb.zz30 Tb.sz30 Tb.by30 rfl (by decide) rfl (length_hcs out) (fun w hs => strow hs 2 rfl) (hcs1 out) (by omega) (by decide) (show 1 + out.length = (root (seg l (a + 2 ^ j) b) :: out).length by simp; omega) (show _ = hcs (root (seg l (a + 2 ^ j) b) :: out) by simp [hcs]) fun A2 k2 _ hk2 => ?_
            refine J.yl (y_assign rfl rfl) rfl rfl rfl ?_
            refine J.nil ?_
            refine JQ.block_normal ?_
            refine JQ.keepn 1 ?_
            refine againK12 (a, a + 2 ^ j, root (seg l (a + 2 ^ j) b) :: out, A2, k2) _ ⟨by dsimp only; omega, by dsimp only; omega, by dsimp only; omega, by dsimp only; rw [hpa, hst, List.append_assoc]; rfl, hk2, by dsimp only; rw [List.length_cons]; omega, j, hd1, by dsimp only; omega⟩ (by dsimp only; omega) (okE_cons rfl (okE_cons rfl (okE_cons (slotI (by dsimp only; omega)) okE_nil))) (okE_cons rfl (okE_cons rfl okE_nil))
          · have hst := path_seg_r l a b i (by omega) (by omega) (by omega)
            rw [hj] at hst
            refine JC.seq fun K19 hK19 => ?_
            refine JC.region ?_
            refine J.yl (y_move rfl rfl) rfl rfl rfl ?_
            refine J.yl (y_move rfl rfl) rfl rfl rfl ?_
            refine J.yl (y_move rfl rfl) rfl rfl rfl ?_
            refine J.callv rfl rfl rfl rfl Tb.cl117 rfl (troot_fn T m n es clock l hM hn hN j a (a + 2 ^ j) _ _ hd1 (by omega) (by omega) (by omega) rfl (by omega) _ (fun w h => hF w h.1)) ?_
            refine J.storeW 0 rfl rfl rfl rfl rfl rfl rfl Tb.sz30 (hcl _) (hcl _) (hc1 _) ?_
            refine J.nil ?_
            refine JQ.next hK19 ?_
            refine JC.region ?_
            refine J.yl (y_move rfl rfl) rfl rfl rfl ?_
            refine J.yl (y_assign rfl rfl) rfl rfl rfl ?_
            refine J.nil ?_
            refine JQ.next hK17 ?_
            refine JC.region ?_
            refine J.yl (y_lbW 0 rfl Tb.ag30 Tb.sz30 (hcl _) rfl rfl) rfl rfl rfl ?_
            refine J.bsN (cs := hcs ([root (seg l a (a + 2 ^ j))])) ([root (seg l a (a + 2 ^ j))]) hv hc hv_cells hcl rfl rfl rfl rfl rfl rfl Tryd.underlying22 Tb.zz30 Tb.sz30 rfl rfl fun g54 => ?_
            refine J.yl (y_move rfl rfl) rfl rfl rfl ?_
            refine J.append 0 rfl rfl rfl rfl rfl rfl Tryd.underlying22 Tb.zz30 Tb.sz30 Tb.by30 rfl (by decide) rfl (length_hcs out) (fun w hs => strow hs 2 rfl) (hcs1 out) (by omega) (by decide) (show 1 + out.length = (root (seg l a (a + 2 ^ j)) :: out).length by simp; omega) (show _ = hcs (root (seg l a (a + 2 ^ j)) :: out) by simp [hcs]) fun A2 k2 _ hk2 => ?_
            refine J.yl (y_assign rfl rfl) rfl rfl rfl ?_
            refine J.nil ?_
            refine JQ.block_normal ?_
            refine JQ.keepn 1 ?_
            refine againK12 (a + 2 ^ j, b, root (seg l a (a + 2 ^ j)) :: out, A2, k2) _ ⟨by dsimp only; omega, by dsimp only; omega, by dsimp only; omega, by dsimp only; rw [hpa, hst, List.append_assoc]; rfl, hk2, by dsimp only; rw [List.length_cons]; omega, j, hd2, by dsimp only; omega⟩ (by dsimp only; omega) (okE_cons rfl (okE_cons (slotI (by dsimp only; omega)) (okE_cons rfl okE_nil))) (okE_cons rfl (okE_cons rfl okE_nil))
        · have hfin : tpth l i z = out := by
            rw [hp, hpa, path_one _ _ (by rw [seg_len _ _ _ (by omega)]; omega)]; rfl
          refine JC.exit ?_
          refine JQ.then_exit (JQ.then_exit (JQ.block_hit (JQ.next hK10 ?_)))
          refine JC.seq fun K20 hK20 => ?_
          refine JC.region ?_
          refine J.yl (y_move rfl rfl) rfl rfl rfl ?_
          refine J.yl (y_assign rfl rfl) rfl rfl rfl ?_
          refine J.yl (y_assign rfl rfl) rfl rfl rfl ?_
          refine J.nil ?_
          refine JQ.next hK20 ?_
          refine JC.ret ?_
          exact ret2 rfl (r_tmp rfl) (r_tmp rfl) fun w hs => by rw [hfin, hE]; exact Post.of_st hs (A, k) hko (List.Sublist.refl _) fun _ _ => trivial
end Go.Proofs.YtjkfeonbioccmaaDoor
namespace Go.Proofs.YtjkfeonbioccmaaDoor
open Go Go.Sx Go.RowKit
set_option linter.unusedVariables false
set_option linter.unusedSimpArgs false
set_option maxRecDepth 100000
set_option maxHeartbeats 4000000
variable {Gl F : World → Prop}
def tpf (l : List H) (q z : Int) : List H := if z < 0 ∨ (l.length : Int) < z ∨ q ≤ 0 ∨ z < q then [] else sub (l.take z.toNat) q.toNat true
def tpfE (l : List H) (q z : Int) : Int := if z < 0 ∨ (l.length : Int) < z ∨ q < 0 ∨ z < q then 82 else 0
theorem tProof_fn (T m n : Nat) (es : Array MapEntry) (clock : Nat) (l : List H) (hM : Mp es (tile l)) (hn : l.length = n) (hN : n ≤ 4096) (i z : Int) (hF : ∀ w, F w → Tt T m n es clock w) :
    FnSpec Tryd.prog Gs 39 [.pointer (some ⟨T, 0, none⟩), .int .i64 i, .int .i64 z] [] F (ι := Option Addr × Nat) (fun q => (tpf l i z).length ≤ q.2) (fun q => .tuple #[.slice q.1 (tpf l i z).length q.2, .int .i64 (tpfE l i z)]) (OwnL (tpf l i z)) (fun _ _ => True) := by
  have hbad : z < 0 ∨ (n : Int) < z ∨ i < 0 ∨ z < i → tpf l i z = [] ∧ tpfE l i z = 82 := fun h => ⟨if_pos (by rw [hn]; omega), if_pos (by rw [hn]; exact h)⟩
  refine FnSpec.intro Tryd.func39 rfl Tryd.ntmps39 rfl fun X M w => ?_
  refine JC.seq fun K1 hK1 => ?_
  refine JC.region ?_
  refine J.yl (y_assign rfl rfl) rfl rfl rfl ?_
  refine J.yl (y_assign rfl rfl) rfl rfl rfl ?_
  refine J.nil ?_
  refine JQ.next hK1 ?_
  refine JC.seq fun K2 hK2 => ?_
  refine JC.region ?_
  refine J.yl (y_move rfl rfl) rfl rfl rfl ?_
  refine J.yl (y_move rfl rfl) rfl rfl rfl ?_
  refine J.callv rfl rfl rfl rfl Tb.cl116 rfl (within_fn T m n es clock z (fun w h => hF w h.1)) ?_
  refine J.yl (y_assign rfl rfl) rfl rfl rfl ?_
  refine J.nil ?_
  refine JQ.next hK2 ?_
  refine JC.seq fun K3 hK3 => ?_
  refine JC.block ?_
  refine JC.seq fun K4 hK4 => ?_
  refine JC.region ?_
  refine J.yl (y_move rfl rfl) rfl rfl rfl ?_
  refine J.yl (y_ne rfl rfl rfl) rfl rfl rfl ?_
  refine J.yl (y_assign rfl rfl) rfl rfl rfl ?_
  refine J.nil ?_
  refine JQ.next hK4 ?_
  refine JC.condn rfl (fun h1 => ?_) (fun h1 => ?_)
  · have hz : z < 0 ∨ (n : Int) < z := by
      by_cases h : z < 0 ∨ (n : Int) < z
      · exact h
      · exact absurd (if_neg h) h1
    have hE : wthE n z = 82 := if_pos hz
    obtain ⟨hb1, hb2⟩ := hbad (by omega)
    refine JC.seq fun K5 hK5 => ?_
    refine JC.region ?_
    refine J.yl (y_move rfl rfl) rfl rfl rfl ?_
    refine J.yl (y_assign rfl rfl) rfl rfl rfl ?_
    refine J.yl (y_assign rfl rfl) rfl rfl rfl ?_
    refine J.nil ?_
    refine JQ.next hK5 ?_
    refine JC.ret ?_
    refine JQ.block_ret (JQ.then_ret ?_)
    refine JQ.st ?_ (fun w hs => hs.nilrow 30 32)
    exact ret2 rfl (r_tmp rfl) (r_tmp rfl) fun w hs => by rw [hb1, hb2, hE]; exact Post.of_st hs (none, 0) (Nat.le_refl _) (List.Sublist.refl _) fun _ _ => trivial
  · have hok : ¬ (z < 0 ∨ (n : Int) < z) := fun h => by
      have : wthE n z = 82 := if_pos h
      rw [this] at h1; exact absurd h1 (by decide)
    refine JC.seq fun K6 hK6 => ?_
    refine JC.region ?_
    refine J.yl (y_move rfl rfl) rfl rfl rfl ?_
    refine J.ylp (y_lt rfl rfl rfl) rfl rfl rfl (fun h2 => ?_) (fun h2 => ?_)
    · obtain ⟨hb1, hb2⟩ := hbad (by omega)
      refine J.yl (y_move rfl rfl) rfl rfl rfl ?_
      refine J.gno (b := true) rfl rfl rfl rfl rfl rfl ?_
      refine J.gno (b := true) rfl rfl rfl rfl rfl rfl ?_
      refine J.gno (b := true) rfl rfl rfl rfl rfl rfl ?_
      refine J.yl (y_pick rfl rfl (fun _ => rfl) (fun h => by cases h)) rfl rfl rfl ?_
      refine J.yl (y_assign rfl rfl) rfl rfl rfl ?_
      refine J.nil ?_
      refine JQ.next hK6 ?_
      refine JC.yes rfl ?_
      refine JC.seq fun K7 hK7 => ?_
      refine JC.region ?_
      refine J.yl (y_assign rfl rfl) rfl rfl rfl ?_
      refine J.yl (y_assign rfl rfl) rfl rfl rfl ?_
      refine J.nil ?_
      refine JQ.next hK7 ?_
      refine JC.ret ?_
      refine JQ.block_ret (JQ.then_ret ?_)
      refine JQ.st ?_ (fun w hs => hs.nilrow 30 32)
      exact ret2 rfl (r_tmp rfl) (r_tmp rfl) fun w hs => by rw [hb1, hb2]; exact Post.of_st hs (none, 0) (Nat.le_refl _) (List.Sublist.refl _) fun _ _ => trivial
    · refine J.yl (y_move rfl rfl) rfl rfl rfl ?_
      refine J.gyes (y_move rfl rfl) rfl rfl rfl rfl rfl rfl ?_
      refine J.gyes (y_move rfl rfl) rfl rfl rfl rfl rfl rfl ?_
      refine J.gyes (y_gt rfl rfl rfl) rfl rfl rfl rfl rfl rfl ?_
      refine J.yl (y_pick rfl rfl (fun h => by cases h) (fun _ => rfl)) rfl rfl rfl ?_
      refine J.yl (y_assign rfl rfl) rfl rfl rfl ?_
      refine J.nil ?_
      refine JQ.next hK6 ?_
      refine JC.condp rfl (fun h3 => ?_) (fun h3 => ?_)
      · obtain ⟨hb1, hb2⟩ := hbad (by omega)
        refine JC.seq fun K8 hK8 => ?_
        refine JC.region ?_
        refine J.yl (y_assign rfl rfl) rfl rfl rfl ?_
        refine J.yl (y_assign rfl rfl) rfl rfl rfl ?_
        refine J.nil ?_
        refine JQ.next hK8 ?_
        refine JC.ret ?_
        refine JQ.block_ret (JQ.then_ret ?_)
        refine JQ.st ?_ (fun w hs => hs.nilrow 30 32)
        exact ret2 rfl (r_tmp rfl) (r_tmp rfl) fun w hs => by rw [hb1, hb2]; exact Post.of_st hs (none, 0) (Nat.le_refl _) (List.Sublist.refl _) fun _ _ => trivial
      · obtain ⟨i, rfl⟩ : ∃ q : Nat, i = q := ⟨i.toNat, by omega⟩
        obtain ⟨z, rfl⟩ : ∃ q : Nat, z = q := ⟨z.toNat, by omega⟩
        have hE : tpfE l i z = 0 := by rw [tpfE, if_neg (by omega)]
        refine JC.seq fun K9 hK9 => ?_
        refine JC.region ?_
        refine J.yl (y_move rfl rfl) rfl rfl rfl ?_
        refine J.yl (y_eq rfl rfl rfl) rfl rfl rfl ?_
        refine J.yl (y_assign rfl rfl) rfl rfl rfl ?_
        refine J.nil ?_
        refine JQ.next hK9 ?_
        refine JC.condp rfl (fun h0 => ?_) (fun h0 => ?_)
        · have hp : tpf l i z = [] := if_pos (by omega)
          refine JC.seq fun K10 hK10 => ?_
          refine JC.region ?_
          refine J.yl (y_assign rfl rfl) rfl rfl rfl ?_
          refine J.yl (y_assign rfl rfl) rfl rfl rfl ?_
          refine J.nil ?_
          refine JQ.next hK10 ?_
          refine JC.ret ?_
          refine JQ.block_ret (JQ.then_ret ?_)
          refine JQ.st ?_ (fun w hs => hs.nilrow 30 32)
          exact ret2 rfl (r_tmp rfl) (r_tmp rfl) fun w hs => by rw [hp, hE]; exact Post.of_st hs (none, 0) (Nat.le_refl _) (List.Sublist.refl _) fun _ _ => trivial
        · have hp : tpf l i z = sub (seg l 0 z) i true := by
            rw [tpf, if_neg (by omega), Int.toNat_natCast, Int.toNat_natCast, seg, List.drop_zero]
          refine JC.skip ?_
          refine JQ.block_normal (JQ.next hK3 ?_)
          refine JC.seq fun K11 hK11 => ?_
          refine JC.region ?_
          refine J.yl (y_assign rfl rfl) rfl rfl rfl ?_
          refine J.nil ?_
          refine JQ.next hK11 ?_
          refine JC.seq fun K12 hK12 => ?_
          refine JC.region ?_
          refine J.yl (y_move rfl rfl) rfl rfl rfl ?_
          refine J.yl (y_assign rfl rfl) rfl rfl rfl ?_
          refine J.yl (y_assign rfl rfl) rfl rfl rfl ?_
          refine J.nil ?_
          refine JQ.next hK12 ?_
          refine JC.seq fun K13 hK13 => ?_
          refine JC.block ?_
          refine JC.st ?_ (fun w hs => hs.nilrow 30 32)
          refine JC.loopE (σ := Nat × Nat × List H × Option Addr × Nat) (M := fun q => [(9, .slice q.2.2.2.1 q.2.2.1.length q.2.2.2.2), (10, .int .i64 (q.1 : Int)), (11, .int .i64 (q.2.1 : Int))]) (kp := [(0, _), (1, _)]) (hkp := (okE_cons rfl (okE_cons rfl okE_nil))) (Dc := fun q => [.row (.slice q.2.2.2.1 q.2.2.1.length q.2.2.2.2) 30 32 q.2.2.1.length (hcs q.2.2.1)]) (H := fun _ => F) (Ψ := fun q => q.1 < i ∧ i ≤ q.2.1 ∧ q.2.1 ≤ z ∧ sub (seg l 0 z) i true = sub (seg l q.1 q.2.1) (i - q.1) (decide (q.1 = 0)) ++ q.2.2.1 ∧ q.2.2.1.length ≤ q.2.2.2.2 ∧ q.2.2.1.length + (q.2.1 - q.1) ≤ z ∧ ∃ c, q.1 % 2 ^ c = 0 ∧ q.2.1 - q.1 ≤ 2 ^ c) (μ := fun q => q.2.1 - q.1) (0, z, [], none, 0) ⟨by dsimp only; omega, by dsimp only; omega, by dsimp only; omega, by simp, Nat.le_refl _, by simp, 12, rfl, by have : (2 : Nat) ^ 12 = 4096 := rfl; dsimp only; omega⟩ (okE_cons rfl (okE_cons rfl (okE_cons rfl okE_nil))) (fun w h => h) (fun sK14 hK14 K14 againK14 => ?_)
          obtain ⟨a, b, out, A, k⟩ := sK14
          dsimp only at hK14 againK14 ⊢
          obtain ⟨ha, hb, hbz, hpa, hko, hlo, c, hcd, hcb⟩ := hK14
          refine JC.seq fun K15 hK15 => ?_
          refine JC.seq fun K16 hK16 => ?_
          refine JC.region ?_
          refine J.yl (y_move rfl rfl) rfl rfl rfl ?_
          refine J.yl (y_move rfl rfl) rfl rfl rfl ?_
          refine J.yl (y_lt rfl rfl rfl) rfl rfl rfl ?_
          refine J.nil ?_
          refine JQ.next hK16 ?_
          refine JC.condp rfl (fun h4 => ?_) (fun h4 => ?_)
          · obtain ⟨j, hj, hjc, hd1, hd2, hj0, hj1, hj2⟩ := split_at hcd (show 2 ≤ b - a by omega) hcb
            refine JC.skip ?_
            refine JQ.next hK15 ?_
            refine JC.block ?_
            refine JC.seq fun K17 hK17 => ?_
            refine JC.region ?_
            refine J.yl (y_move rfl rfl) rfl rfl rfl ?_
            refine J.yl (y_move rfl rfl) rfl rfl rfl ?_
            refine J.yl (y_move rfl rfl) rfl rfl rfl ?_
            refine J.yl (y_sub64 rfl rfl rfl (by omega)) rfl rfl rfl ?_
            refine J.callv rfl rfl rfl rfl Tb.cl107 rfl ((split_fn (b - a) _ (by omega) (by omega)).to (by rw [hj])) ?_
            refine J.yl (y_add64 rfl rfl rfl (by omega)) rfl rfl rfl ?_
            refine J.yl (y_assign rfl rfl) rfl rfl rfl ?_
            refine J.nil ?_
            refine JQ.next hK17 ?_
            refine JC.seq fun K18 hK18 => ?_
            refine JC.region ?_
            refine J.yl (y_move rfl rfl) rfl rfl rfl ?_
            refine J.yl (y_move rfl rfl) rfl rfl rfl ?_
            refine J.yl (y_move rfl rfl) rfl rfl rfl ?_
            refine J.callv rfl rfl rfl rfl Tb.cl117 rfl (troot_fn T m n es clock l hM hn hN j (a + 2 ^ j) b _ _ hd2 (by omega) (by omega) (by omega) (by omega) rfl _ (fun w h => hF w h.1)) ?_
            refine J.alloc rfl rfl rfl rfl Tb.zz30 rfl fun g13 => ?_
            refine J.storeW 0 rfl rfl rfl rfl rfl rfl rfl Tb.sz30 (hcl _) (hcl _) (hc1 _) ?_
            refine J.nil ?_
            refine JQ.next hK18 ?_
            refine JC.seq fun K19 hK19 => ?_
            refine JC.seq fun K20 hK20 => ?_
            refine JC.region ?_
            refine J.yl (y_move rfl rfl) rfl rfl rfl ?_
            refine J.yl (y_move rfl rfl) rfl rfl rfl ?_
            refine J.yl (y_le rfl rfl rfl) rfl rfl rfl ?_
            refine J.nil ?_
            refine JQ.next hK20 ?_
            refine JC.condp rfl (fun h5 => ?_) (fun h5 => ?_)
            · have hst := sub_seg_l l a b i (decide (a = 0)) (by omega) (by omega) (by omega) (by omega)
              rw [hj] at hst
              refine JC.region ?_
              refine J.yl (y_move rfl rfl) rfl rfl rfl ?_
              refine J.yl (y_assign rfl rfl) rfl rfl rfl ?_
              refine J.nil ?_
              refine JQ.next hK19 ?_
              refine JC.region ?_
              refine J.yl (y_lbW 0 rfl Tb.ag30 Tb.sz30 (hcl _) rfl rfl) rfl rfl rfl ?_
              refine J.bsN (cs := hcs ([root (seg l (a + 2 ^ j) b)])) ([root (seg l (a + 2 ^ j) b)]) hv hc hv_cells hcl rfl rfl rfl rfl rfl rfl Tryd.underlying22 Tb.zz30 Tb.sz30 rfl rfl fun g56 => ?_
              refine J.yl (y_move rfl rfl) rfl rfl rfl ?_
              refine J.append 0 rfl rfl rfl rfl rfl rfl Tryd.underlying22 Tb.zz30 Tb.sz30 Tb.by30 rfl (by decide) rfl (length_hcs out) (fun w hs => strow hs 2 rfl) (hcs1 out) (by omega) (by decide) (show 1 + out.length = (root (seg l (a + 2 ^ j) b) :: out).length by simp; omega) (show _ = hcs (root (seg l (a + 2 ^ j) b) :: out) by simp [hcs]) fun A2 k2 _ hk2 => ?_
              refine J.yl (y_assign rfl rfl) rfl rfl rfl ?_
              refine J.nil ?_
              refine JQ.block_normal ?_
              refine JQ.keepn 1 ?_
              refine againK14 (a, a + 2 ^ j, root (seg l (a + 2 ^ j) b) :: out, A2, k2) _ ⟨by dsimp only; omega, by dsimp only; omega, by dsimp only; omega, by dsimp only; rw [hpa, hst, List.append_assoc]; rfl, hk2, by dsimp only; rw [List.length_cons]; omega, j, hd1, by dsimp only; omega⟩ (by dsimp only; omega) (okE_cons rfl (okE_cons rfl (okE_cons (slotI (by dsimp only; omega)) okE_nil))) (okE_cons rfl (okE_cons rfl okE_nil))
            · have hst := sub_seg_r l a b i (decide (a = 0)) (by omega) (by omega) (by omega)
              rw [hj] at hst
              have hne : decide (a + 2 ^ j = 0) = false := decide_eq_false (by omega)
              refine JC.seq fun K21 hK21 => ?_
              refine JC.region ?_
              refine J.yl (y_move rfl rfl) rfl rfl rfl ?_
              refine J.yl (y_move rfl rfl) rfl rfl rfl ?_
              refine J.yl (y_move rfl rfl) rfl rfl rfl ?_
              refine J.callv rfl rfl rfl rfl Tb.cl117 rfl (troot_fn T m n es clock l hM hn hN j a (a + 2 ^ j) _ _ hd1 (by omega) (by omega) (by omega) rfl (by omega) _ (fun w h => hF w h.1)) ?_
              refine J.storeW 0 rfl rfl rfl rfl rfl rfl rfl Tb.sz30 (hcl _) (hcl _) (hc1 _) ?_
              refine J.nil ?_
              refine JQ.next hK21 ?_
              refine JC.region ?_
              refine J.yl (y_move rfl rfl) rfl rfl rfl ?_
              refine J.yl (y_assign rfl rfl) rfl rfl rfl ?_
              refine J.nil ?_
              refine JQ.next hK19 ?_
              refine JC.region ?_
              refine J.yl (y_lbW 0 rfl Tb.ag30 Tb.sz30 (hcl _) rfl rfl) rfl rfl rfl ?_
              refine J.bsN (cs := hcs ([root (seg l a (a + 2 ^ j))])) ([root (seg l a (a + 2 ^ j))]) hv hc hv_cells hcl rfl rfl rfl rfl rfl rfl Tryd.underlying22 Tb.zz30 Tb.sz30 rfl rfl fun g56 => ?_
              refine J.yl (y_move rfl rfl) rfl rfl rfl ?_
              refine J.append 0 rfl rfl rfl rfl rfl rfl Tryd.underlying22 Tb.zz30 Tb.sz30 Tb.by30 rfl (by decide) rfl (length_hcs out) (fun w hs => strow hs 2 rfl) (hcs1 out) (by omega) (by decide) (show 1 + out.length = (root (seg l a (a + 2 ^ j)) :: out).length by simp; omega) (show _ = hcs (root (seg l a (a + 2 ^ j)) :: out) by simp [hcs]) fun A2 k2 _ hk2 => ?_
              refine J.yl (y_assign rfl rfl) rfl rfl rfl ?_
              refine J.nil ?_
              refine JQ.block_normal ?_
              refine JQ.keepn 1 ?_
              refine againK14 (a + 2 ^ j, b, root (seg l a (a + 2 ^ j)) :: out, A2, k2) _ ⟨by dsimp only; omega, by dsimp only; omega, by dsimp only; omega, by dsimp only; rw [hpa, hst, hne, List.append_assoc]; rfl, hk2, by dsimp only; rw [List.length_cons]; omega, j, hd2, by dsimp only; omega⟩ (by dsimp only; omega) (okE_cons rfl (okE_cons (slotI (by dsimp only; omega)) (okE_cons rfl okE_nil))) (okE_cons rfl (okE_cons rfl okE_nil))
          · have hib : i = b := by omega
            have hlen := seg_len l a b (by omega)
            refine JC.exit ?_
            refine JQ.then_exit (JQ.then_exit (JQ.block_hit (JQ.next hK13 ?_)))
            refine JC.seq fun K22 hK22 => ?_
            refine JC.seq fun K23 hK23 => ?_
            refine JC.region ?_
            refine J.yl (y_move rfl rfl) rfl rfl rfl ?_
            refine J.yl (y_gt rfl rfl rfl) rfl rfl rfl ?_
            refine J.nil ?_
            refine JQ.next hK23 ?_
            refine JC.condp rfl (fun h6 => ?_) (fun h6 => ?_)
            · have hfin : tpf l i z = root (seg l a b) :: out := by
                rw [hp, hpa, sub_all _ _ _ (by rw [hlen]; omega), decide_eq_false (by omega)]; rfl
              refine JC.region ?_
              refine J.yl (y_move rfl rfl) rfl rfl rfl ?_
              refine J.yl (y_move rfl rfl) rfl rfl rfl ?_
              refine J.yl (y_move rfl rfl) rfl rfl rfl ?_
              refine J.callv rfl rfl rfl rfl Tb.cl117 rfl (troot_fn T m n es clock l hM hn hN c a b _ _ hcd (by omega) (by omega) (by omega) rfl rfl _ (fun w h => hF w h.1)) ?_
              refine J.bsN (cs := hcs ([root (seg l a b)])) ([root (seg l a b)]) hv hc hv_cells hcl rfl rfl rfl rfl rfl rfl Tryd.underlying22 Tb.zz30 Tb.sz30 rfl rfl fun g65 => ?_
              refine J.yl (y_move rfl rfl) rfl rfl rfl ?_
              refine J.append 0 rfl rfl rfl rfl rfl rfl Tryd.underlying22 Tb.zz30 Tb.sz30 Tb.by30 rfl (by decide) rfl (length_hcs out) (fun w hs => strow hs 1 rfl) (hcs1 out) (by omega) (by decide) (show 1 + out.length = (root (seg l a b) :: out).length by simp; omega) (show _ = hcs (root (seg l a b) :: out) by simp [hcs]) fun A2 k2 _ hk2 => ?_
              refine J.yl (y_assign rfl rfl) rfl rfl rfl ?_
              refine J.nil ?_
              refine JQ.next hK22 ?_
              refine JC.seq fun K24 hK24 => ?_
              refine JC.region ?_
              refine J.yl (y_move rfl rfl) rfl rfl rfl ?_
              refine J.yl (y_assign rfl rfl) rfl rfl rfl ?_
              refine J.yl (y_assign rfl rfl) rfl rfl rfl ?_
              refine J.nil ?_
              refine JQ.next hK24 ?_
              refine JC.ret ?_
              exact ret2 rfl (r_tmp rfl) (r_tmp rfl) fun w hs => by rw [hfin, hE]; exact Post.of_st hs (A2, k2) hk2 (.cons_cons _ (List.nil_sublist _)) fun _ _ => trivial
            · have hfin : tpf l i z = out := by
                rw [hp, hpa, sub_all _ _ _ (by rw [hlen]; omega), decide_eq_true (by omega)]; rfl
              refine JC.skip ?_
              refine JQ.next hK22 ?_
              refine JC.seq fun K25 hK25 => ?_
              refine JC.region ?_
              refine J.yl (y_move rfl rfl) rfl rfl rfl ?_
              refine J.yl (y_assign rfl rfl) rfl rfl rfl ?_
              refine J.yl (y_assign rfl rfl) rfl rfl rfl ?_
              refine J.nil ?_
              refine JQ.next hK25 ?_
              refine JC.ret ?_
              exact ret2 rfl (r_tmp rfl) (r_tmp rfl) fun w hs => by rw [hfin, hE]; exact Post.of_st hs (A, k) hko (List.Sublist.refl _) fun _ _ => trivial
end Go.Proofs.YtjkfeonbioccmaaDoor
namespace Go.Proofs.YtjkfeonbioccmaaDoor
open Go Go.Sx Go.RowKit
set_option linter.unusedVariables false
set_option linter.unusedSimpArgs false
set_option maxRecDepth 100000
set_option maxHeartbeats 2000000
variable {Gl F : World → Prop}
/-- The tiles' chunks. -/
abbrev Tc (T m n : Nat) (es : Array MapEntry) (clock : Nat) : List Chunk := [.box T 57 [.map (some m), .int .i64 (n : Int)], .mp m (.map es clock)]
theorem fill_S1 (gm : Nat) : Instr.fill (fun i : Nat => [(0, 1), (1, 1)][i]?) (#[.map none, .int .i64 0] : Array Value) [(0, .map (some gm))] = some #[.map (some gm), .int .i64 0] := by rfl
theorem tnew_fn : FnSpec Tryd.prog Gl 41 [] [] F (ι := Nat × Nat) (fun _ => True) (fun q => .pointer (some ⟨q.1, 0, none⟩)) (fun q => Tc q.1 q.2 0 #[] 0) (fun _ _ => True) := by
  refine FnSpec.intro Tryd.func41 rfl Tryd.ntmps41 rfl fun X M w => ?_
  refine JC.seq fun K1 hK1 => ?_
  refine JC.region ?_
  refine J.yl (y_assign rfl rfl) rfl rfl rfl ?_
  refine J.nil ?_
  refine JQ.next hK1 ?_
  refine JC.seq fun K2 hK2 => ?_
  refine JC.region ?_
  refine J.makeMap rfl rfl rfl rfl fun gm => ?_
  refine J.yl (y_buildS (pl := [(0, 1), (1, 1)]) (zs := [.map none, .int .i64 0]) (cs := [.map (some gm), .int .i64 0]) rfl (by kernel_rfl) (by kernel_rfl) rfl (fill_S1 gm)) rfl rfl rfl ?_
  refine J.box rfl rfl rfl rfl rfl rfl fun g3 => ?_
  refine J.yl (y_assign rfl rfl) rfl rfl rfl ?_
  refine J.nil ?_
  refine JQ.next hK2 ?_
  refine JC.ret ?_
  exact ret1 rfl (r_tmp rfl) fun w hs => Post.of_st hs (g3, gm) trivial (List.Sublist.refl _) fun _ _ => trivial
theorem tt_of {T m n : Nat} {es : Array MapEntry} {clock : Nat} {C : List Chunk} {w : World} (i j : Nat) (hi : C[i]? = some (.box T 57 [.map (some m), .int .i64 (n : Int)])) (hj : C[j]? = some (.mp m (.map es clock))) (h : ∀ x ∈ C, x.sat w) : Tt T m n es clock w := ⟨h _ (List.mem_of_getElem? hi), h _ (List.mem_of_getElem? hj)⟩
/-- One leaf more, if there may be one. -/
def addL (l : List H) (x : H) : List H := if 4096 ≤ l.length then l else l ++ [x]
def addE (l : List H) : Int := if 4096 ≤ l.length then 60 else 0
theorem lv_le {lv ix n : Nat} (h : (ix + 1) * 2 ^ lv = n + 1) (hN : n < 4096) : lv < 13 ∧ ix ≤ n := by
  have h1 : lv < 2 ^ lv := Nat.lt_two_pow_self
  have h2 : 2 ^ lv ≤ n + 1 := by rw [← h]; exact Nat.le_mul_of_pos_left _ (by omega)
  have h3 : ix + 1 ≤ n + 1 := by rw [← h]; exact Nat.le_mul_of_pos_right _ (Nat.pow_pos (by decide))
  refine ⟨?_, by omega⟩
  exact (Nat.pow_lt_pow_iff_right (show 1 < 2 by decide)).1 (show 2 ^ lv < 2 ^ 13 by have : (2 : Nat) ^ 13 = 8192 := rfl; omega)
theorem root_last (l : List H) (x : H) (n : Nat) (hn : l.length = n) : root (seg (l ++ [x]) (n * 2 ^ 0) (n + 1)) = x := by
  have : seg (l ++ [x]) n (n + 1) = [x] := by
    unfold seg
    rw [List.take_of_length_le (by simp [hn]), ← hn, List.drop_left]
  rw [Nat.pow_zero, Nat.mul_one, this, root_one]
theorem half_step {ix lv N : Nat} (h : (ix + 1) * 2 ^ lv = N) (ho : ix % 2 = 1) : (ix / 2 + 1) * 2 ^ (lv + 1) = N := by
  rw [Nat.pow_succ, Nat.mul_comm (2 ^ lv) 2, ← Nat.mul_assoc, ← h]; congr 1; omega
theorem half_left {ix lv : Nat} (ho : ix % 2 = 1) : ix / 2 * 2 ^ (lv + 1) = (ix - 1) * 2 ^ lv := by
  rw [Nat.pow_succ, Nat.mul_comm (2 ^ lv) 2, ← Nat.mul_assoc]; congr 1; omega
theorem tadd_fn (T m n : Nat) (es : Array MapEntry) (clock : Nat) (l : List H) (x : H) (hM : Mp es (tile l)) (hn : l.length = n) :
    FnSpec Tryd.prog Gs 42 [.pointer (some ⟨T, 0, none⟩), hv x] (Tc T m n es clock) F (ι := Array MapEntry × Nat) (fun q => Mp q.1 (tile (addL l x))) (fun _ => .int .i64 (addE l)) (fun q => Tc T m (addL l x).length q.1 q.2) (fun _ _ => True) := by
  refine FnSpec.intro Tryd.func42 rfl Tryd.ntmps42 rfl fun X M w => ?_
  refine JC.seq fun K1 hK1 => ?_
  refine JC.region ?_
  refine J.box rfl rfl rfl rfl rfl rfl fun g3 => ?_
  refine J.yl (y_assign rfl rfl) rfl rfl rfl ?_
  refine J.nil ?_
  refine JQ.next hK1 ?_
  refine JC.seq fun K2 hK2 => ?_
  refine JC.block ?_
  refine JC.seq fun K3 hK3 => ?_
  refine JC.region ?_
  refine J.yl (y_move rfl rfl) rfl rfl rfl ?_
  refine J.callv rfl rfl rfl rfl Tb.cl115 rfl (none_fn T m n es clock (fun w h => tt_of 1 2 rfl rfl h.2)) ?_
  refine J.yl (y_assign rfl rfl) rfl rfl rfl ?_
  refine J.nil ?_
  refine JQ.next hK3 ?_
  refine JC.no rfl ?_
  refine JC.seq fun K4 hK4 => ?_
  refine JC.region ?_
  refine J.yl (y_move rfl rfl) rfl rfl rfl ?_
  refine J.yl (y_nilp rfl rfl) rfl rfl rfl ?_
  refine J.yl (y_fb rfl Tb.fo57_1 rfl) rfl rfl rfl ?_
  refine J.yl (y_lb 1 rfl Tb.ag3 rfl rfl rfl) rfl rfl rfl ?_
  refine J.yl (y_ge rfl rfl rfl) rfl rfl rfl ?_
  refine J.yl (y_assign rfl rfl) rfl rfl rfl ?_
  refine J.nil ?_
  refine JQ.next hK4 ?_
  refine JC.condp rfl (fun h1 => ?_) (fun h1 => ?_)
  · have hl : addL l x = l := if_pos (by omega)
    have hE : addE l = 60 := if_pos (by omega)
    refine JC.seq fun K5 hK5 => ?_
    refine JC.region ?_
    refine J.yl (y_assign rfl rfl) rfl rfl rfl ?_
    refine J.nil ?_
    refine JQ.next hK5 ?_
    refine JC.ret ?_
    refine JQ.block_ret (JQ.then_ret ?_)
    exact ret1 rfl (r_tmp rfl) fun w hs => by rw [hE]; exact Post.of_st hs (es, clock) (by rw [hl]; exact hM) (by rw [hl, hn]; exact (List.sublist_cons_self _ _)) fun _ _ => trivial
  · have hl : addL l x = l ++ [x] := if_neg (by omega)
    have hE : addE l = 0 := if_neg (by omega)
    have hroot : root (seg (l ++ [x]) (n * 2 ^ 0) (n + 1)) = x := root_last l x n hn
    refine JC.skip ?_
    refine JQ.block_normal (JQ.next hK2 ?_)
    refine JC.seq fun K6 hK6 => ?_
    refine JC.region ?_
    refine J.yl (y_move rfl rfl) rfl rfl rfl ?_
    refine J.yl (y_nilp rfl rfl) rfl rfl rfl ?_
    refine J.yl (y_fb rfl Tb.fo57_1 rfl) rfl rfl rfl ?_
    refine J.yl (y_lb 1 rfl Tb.ag3 rfl rfl rfl) rfl rfl rfl ?_
    refine J.yl (y_buildA (cs := [.int .i64 0, .int .i64 (n : Int)]) rfl Tryd.underlying38 Tb.zz38 Tb.sz3 rfl (fillK2 0 n)) rfl rfl rfl ?_
    refine J.alloc rfl rfl rfl rfl Tb.zz38 rfl fun g5 => ?_
    refine J.storeW 0 rfl rfl rfl rfl rfl rfl rfl Tb.sz38 (by first | (simp [length_wl]; done) | rfl) (by first | (simp [length_wl]; done) | rfl) (by first | exact u32s1 _ | exact one_vc _ | (simp; done) | (intro u hu; simp only [List.mem_cons, List.not_mem_nil, or_false] at hu; rcases hu with rfl | rfl <;> rfl)) ?_
    refine J.nil ?_
    refine JQ.next hK6 ?_
    refine JC.seq fun K7 hK7 => ?_
    refine JC.seq fun K8 hK8 => ?_
    refine JC.draw (by kernel_rfl) ?_
    refine D.take 0 (y_move rfl rfl) rfl rfl rfl rfl (by kernel_rfl) (by kernel_rfl) (by kernel_rfl) (PQ.next (PQ.next PQ.body)) ?_
    refine D.take 1 (y_nilp rfl rfl) rfl rfl rfl rfl (by kernel_rfl) (by kernel_rfl) (by kernel_rfl) (PQ.next (PQ.next PQ.body)) ?_
    refine D.take 2 (y_fb rfl Tb.fo57_0 rfl) rfl rfl rfl rfl (by kernel_rfl) (by kernel_rfl) (by kernel_rfl) (PQ.next (PQ.next PQ.body)) ?_
    refine D.take 3 (y_lb 2 rfl Tb.ag55 rfl rfl rfl) rfl rfl rfl rfl (by kernel_rfl) (by kernel_rfl) (by kernel_rfl) (PQ.next (PQ.next PQ.body)) ?_
    refine D.take 4 (y_lbW 0 rfl Tb.ag38 Tb.sz38 (by first | (simp [length_wl]; done) | rfl) rfl rfl) rfl rfl rfl rfl (by kernel_rfl) (by kernel_rfl) (by kernel_rfl) (PQ.next (PQ.next PQ.body)) ?_
    refine D.take 5 (y_lbW 1 rfl Tb.ag30 Tb.sz30 (hcl _) rfl rfl) rfl rfl rfl rfl (by kernel_rfl) (by kernel_rfl) (by kernel_rfl) (PQ.next (PQ.next PQ.body)) ?_
    refine D.ofJ0 6 (by kernel_rfl) rfl (by kernel_rfl) fun KhK9 hK9 => ?_
    refine J.mapUpd 3 x mkKey rfl rfl rfl Tryd.underlying55 rfl rfl rfl (a := 0) (b := (n : Int)) (by unfold in64; omega) (by unfold in64; omega) rfl hM fun es1 clock1 hM1 => ?_
    refine J.nil ?_
    refine hK9 _ _ _ ?_
    refine D0.done (by kernel_rfl) ?_
    refine JQ.next hK8 ?_
    refine JC.block ?_
    refine JC.loopE (σ := Nat × Nat × Array MapEntry × Nat) (M := fun q => []) (kp := [(0, _), (3, _), (5, _)]) (hkp := (okE_cons rfl (okE_cons rfl (okE_cons rfl okE_nil)))) (Dc := fun q => [.box g5 38 [.int .i64 (q.1 : Int), .int .i64 (q.2.1 : Int)], .box g3 30 (hc (root (seg (l ++ [x]) (q.2.1 * 2 ^ q.1) (n + 1)))), .box T 57 [.map (some m), .int .i64 (n : Int)], .mp m (.map q.2.2.1 q.2.2.2)]) (H := fun _ => F) (Ψ := fun q => (q.2.1 + 1) * 2 ^ q.1 = n + 1 ∧ Mp q.2.2.1 (tileU l x q.1)) (μ := fun q => q.2.1) (0, n, es1, clock1) ⟨by simp, hM1.to fun a b => by rw [tileU_start, hn]; rfl⟩ (okE_nil) (fun w h => by dsimp only; rw [hroot]; exact h) (fun sK10 hK10 K10 againK10 => ?_)
    obtain ⟨lv, ix, es2, clock2⟩ := sK10
    dsimp only at hK10 againK10 ⊢
    obtain ⟨hx, hM2⟩ := hK10
    refine JC.seq fun K11 hK11 => ?_
    refine JC.seq fun K12 hK12 => ?_
    refine JC.region ?_
    refine J.yl (y_ib rfl Tryd.underlying38 Tb.sz3 rfl rfl (by decide)) rfl rfl rfl ?_
    refine J.yl (y_lb 0 rfl Tb.ag3 rfl rfl rfl) rfl rfl rfl ?_
    refine J.yl (y_rem64 rfl rfl rfl (by omega)) rfl rfl rfl ?_
    refine J.yl (y_eq rfl rfl rfl) rfl rfl rfl ?_
    refine J.nil ?_
    refine JQ.next hK12 ?_
    have hx' : (ix + 1) * 2 ^ lv = l.length + 1 := by rw [hn]; exact hx
    obtain ⟨hlv, hix⟩ := lv_le hx (by omega)
    refine JC.condp rfl (fun h4 => ?_) (fun h4 => ?_)
    · have ho : ix % 2 = 1 := by omega
      have hleft : hv ((tileU l x lv (lv : Int) ((ix : Int) - 1)).getD H.zero) = hv (root (seg (l ++ [x]) ((ix - 1) * 2 ^ lv) (ix * 2 ^ lv))) := by rw [tileU_left l x lv ix hx' ho]; rfl
      have hnode : hv (node (root (seg (l ++ [x]) ((ix - 1) * 2 ^ lv) (ix * 2 ^ lv))) (root (seg (l ++ [x]) (ix * 2 ^ lv) (n + 1)))) = hv (root (seg (l ++ [x]) (ix / 2 * 2 ^ (lv + 1)) (n + 1))) := by
        have := node_step l x lv ix hx' ho
        rw [hn] at this
        rw [this, half_left ho]
      refine JC.skip ?_
      refine JQ.next hK11 ?_
      refine JC.seq fun K13 hK13 => ?_
      refine JC.block ?_
      refine JC.seq fun K14 hK14 => ?_
      refine JC.draw (by kernel_rfl) ?_
      refine D.take 0 (y_move rfl rfl) rfl rfl rfl rfl (by kernel_rfl) (by kernel_rfl) (by kernel_rfl) (PQ.next (PQ.block (PQ.next (PQ.next (PQ.block (PQ.next PQ.body)))))) ?_
      refine D.take 1 (y_nilp rfl rfl) rfl rfl rfl rfl (by kernel_rfl) (by kernel_rfl) (by kernel_rfl) (PQ.next (PQ.block (PQ.next (PQ.next (PQ.block (PQ.next PQ.body)))))) ?_
      refine D.take 2 (y_fb rfl Tb.fo57_0 rfl) rfl rfl rfl rfl (by kernel_rfl) (by kernel_rfl) (by kernel_rfl) (PQ.next (PQ.block (PQ.next (PQ.next (PQ.block (PQ.next PQ.body)))))) ?_
      refine D.take 3 (y_lb 2 rfl Tb.ag55 rfl rfl rfl) rfl rfl rfl rfl (by kernel_rfl) (by kernel_rfl) (by kernel_rfl) (PQ.next (PQ.block (PQ.next (PQ.next (PQ.block (PQ.next PQ.body)))))) ?_
      refine D.take 4 (y_ib rfl Tryd.underlying38 Tb.sz3 rfl rfl (by decide)) rfl rfl rfl rfl (by kernel_rfl) (by kernel_rfl) (by kernel_rfl) (PQ.next (PQ.block (PQ.next (PQ.next (PQ.block (PQ.next PQ.body)))))) ?_
      refine D.take 5 (y_lb 0 rfl Tb.ag3 rfl rfl rfl) rfl rfl rfl rfl (by kernel_rfl) (by kernel_rfl) (by kernel_rfl) (PQ.next (PQ.block (PQ.next (PQ.next (PQ.block (PQ.next PQ.body)))))) ?_
      refine D.take 6 (y_ib rfl Tryd.underlying38 Tb.sz3 rfl rfl (by decide)) rfl rfl rfl rfl (by kernel_rfl) (by kernel_rfl) (by kernel_rfl) (PQ.next (PQ.block (PQ.next (PQ.next (PQ.block (PQ.next PQ.body)))))) ?_
      refine D.take 7 (y_lb 0 rfl Tb.ag3 rfl rfl rfl) rfl rfl rfl rfl (by kernel_rfl) (by kernel_rfl) (by kernel_rfl) (PQ.next (PQ.block (PQ.next (PQ.next (PQ.block (PQ.next PQ.body)))))) ?_
      refine D.take 8 (y_sub64 rfl rfl rfl (by omega)) rfl rfl rfl rfl (by kernel_rfl) (by kernel_rfl) (by kernel_rfl) (PQ.next (PQ.block (PQ.next (PQ.next (PQ.block (PQ.next PQ.body)))))) ?_
      refine D.take 11 (y_lbW 1 rfl Tb.ag30 Tb.sz30 (hcl _) rfl rfl) rfl rfl rfl rfl (by kernel_rfl) (by kernel_rfl) (by kernel_rfl) (PQ.next (PQ.block (PQ.next (PQ.next (PQ.block (PQ.next PQ.body)))))) ?_
      refine D.take 9 (y_buildA (cs := [.int .i64 (lv : Int), .int .i64 ((ix : Int) - 1)]) rfl Tryd.underlying38 Tb.zz38 Tb.sz3 rfl (fillK2 _ _)) rfl rfl rfl rfl (by kernel_rfl) (by kernel_rfl) (by kernel_rfl) (PQ.next (PQ.block (PQ.next (PQ.next (PQ.block (PQ.next PQ.body)))))) ?_
      refine D.take 10 ((y_look1 (g := m) (clock := clock2) (es := es2) (a := (lv : Int)) (b := (ix : Int) - 1) mkKey rfl Tryd.underlying55 Tb.zz30 rfl rfl (by unfold in64; omega) (by unfold in64; omega) hM2 (fun w hs => (hs.get (i := 3) rfl : Chunk.sat w (.mp m (.map es2 clock2))))).to hleft) rfl rfl rfl rfl (by kernel_rfl) (by kernel_rfl) (by kernel_rfl) (PQ.next (PQ.block (PQ.next (PQ.next (PQ.block (PQ.next PQ.body)))))) ?_
      refine D.callv 12 (by kernel_rfl) rfl rfl rfl rfl rfl Tb.cl105 rfl ((node_spec _ _).to hnode) ?_
      refine D.storeW 13 1 (by kernel_rfl) rfl (by kernel_rfl) (by kernel_rfl) rfl rfl rfl rfl rfl rfl rfl Tb.sz30  (hcl _) (hcl _) (hc1 _) ?_
      refine JQ.next hK14 ?_
      refine JC.region ?_
      refine J.yl (y_ib rfl Tryd.underlying38 Tb.sz3 rfl rfl (by decide)) rfl rfl rfl ?_
      refine J.yl (y_lb 0 rfl Tb.ag3 rfl rfl rfl) rfl rfl rfl ?_
      refine J.yl (y_add64 rfl rfl rfl (by omega)) rfl rfl rfl ?_
      refine J.yl (y_ib rfl Tryd.underlying38 Tb.sz3 rfl rfl (by decide)) rfl rfl rfl ?_
      refine J.yl (y_lb 0 rfl Tb.ag3 rfl rfl rfl) rfl rfl rfl ?_
      refine J.yl (y_quo64 rfl rfl rfl (by omega)) rfl rfl rfl ?_
      refine J.yl (y_buildA (cs := [.int .i64 ((lv + 1 : Nat) : Int), .int .i64 ((ix / 2 : Nat) : Int)]) rfl Tryd.underlying38 Tb.zz38 Tb.sz3 rfl (fillK2 _ _)) rfl rfl rfl ?_
      refine J.storeW 0 rfl rfl rfl rfl rfl rfl rfl Tb.sz38 (by first | (simp [length_wl]; done) | rfl) (by first | (simp [length_wl]; done) | rfl) (by first | exact u32s1 _ | exact one_vc _ | (simp; done) | (intro u hu; simp only [List.mem_cons, List.not_mem_nil, or_false] at hu; rcases hu with rfl | rfl <;> rfl)) ?_
      refine J.nil ?_
      refine JQ.block_normal (JQ.next hK13 ?_)
      refine JC.draw (by kernel_rfl) ?_
      refine D.take 0 (y_move rfl rfl) rfl rfl rfl rfl (by kernel_rfl) (by kernel_rfl) (by kernel_rfl) (PQ.next (PQ.block (PQ.next PQ.body))) ?_
      refine D.take 1 (y_nilp rfl rfl) rfl rfl rfl rfl (by kernel_rfl) (by kernel_rfl) (by kernel_rfl) (PQ.next (PQ.block (PQ.next PQ.body))) ?_
      refine D.take 2 (y_fb rfl Tb.fo57_0 rfl) rfl rfl rfl rfl (by kernel_rfl) (by kernel_rfl) (by kernel_rfl) (PQ.next (PQ.block (PQ.next PQ.body))) ?_
      refine D.take 3 (y_lb 2 rfl Tb.ag55 rfl rfl rfl) rfl rfl rfl rfl (by kernel_rfl) (by kernel_rfl) (by kernel_rfl) (PQ.next (PQ.block (PQ.next PQ.body))) ?_
      refine D.take 4 (y_lbW 0 rfl Tb.ag38 Tb.sz38 (by first | (simp [length_wl]; done) | rfl) rfl rfl) rfl rfl rfl rfl (by kernel_rfl) (by kernel_rfl) (by kernel_rfl) (PQ.next (PQ.block (PQ.next PQ.body))) ?_
      refine D.take 5 (y_lbW 1 rfl Tb.ag30 Tb.sz30 (hcl _) rfl rfl) rfl rfl rfl rfl (by kernel_rfl) (by kernel_rfl) (by kernel_rfl) (PQ.next (PQ.block (PQ.next PQ.body))) ?_
      refine D.ofJ0 6 (by kernel_rfl) rfl (by kernel_rfl) fun KhK16 hK16 => ?_
      refine J.mapUpd 3 (root (seg (l ++ [x]) (ix / 2 * 2 ^ (lv + 1)) (n + 1))) mkKey rfl rfl rfl Tryd.underlying55 rfl rfl rfl (a := ((lv + 1 : Nat) : Int)) (b := ((ix / 2 : Nat) : Int)) (by unfold in64; omega) (by unfold in64; omega) rfl hM2 fun es3 clock3 hM3 => ?_
      refine J.nil ?_
      refine hK16 _ _ _ ?_
      refine D0.done (by kernel_rfl) ?_
      refine againK10 (lv + 1, ix / 2, es3, clock3) _ ⟨half_step hx ho, hM3.to fun a b => by rw [tileU_step l x lv ix hx' ho, ← half_left ho, hn]; rfl⟩ (by dsimp only; omega) okE_nil (okE_cons rfl (okE_cons rfl (okE_cons rfl okE_nil)))
    · have hM3 : Mp es2 (tile (addL l x)) := by
        rw [hl]; exact hM2.to fun a b => tileU_end l x lv ix hx' (by omega) a b
      have hle : (addL l x).length = n + 1 := by rw [hl]; simp [hn]
      refine JC.exit ?_
      refine JQ.then_exit (JQ.then_exit (JQ.block_hit (JQ.next hK7 ?_)))
      refine JC.seq fun K17 hK17 => ?_
      refine JC.region ?_
      refine J.yl (y_move rfl rfl) rfl rfl rfl ?_
      refine J.yl (y_nilp rfl rfl) rfl rfl rfl ?_
      refine J.yl (y_fb rfl Tb.fo57_1 rfl) rfl rfl rfl ?_
      refine J.yl (y_lb 2 rfl Tb.ag3 rfl rfl rfl) rfl rfl rfl ?_
      refine J.yl (y_add64 rfl rfl rfl (by omega)) rfl rfl rfl ?_
      refine J.yl (y_nilp rfl rfl) rfl rfl rfl ?_
      refine J.yl (y_fb rfl Tb.fo57_1 rfl) rfl rfl rfl ?_
      refine J.store1 2 rfl rfl rfl rfl rfl rfl rfl Tb.sz3 (by first | (simp; done) | exact Nat.le_of_ble_eq_true rfl) rfl ?_
      refine J.nil ?_
      refine JQ.next hK17 ?_
      refine JC.seq fun K18 hK18 => ?_
      refine JC.region ?_
      refine J.yl (y_assign rfl rfl) rfl rfl rfl ?_
      refine J.nil ?_
      refine JQ.next hK18 ?_
      refine JC.ret ?_
      exact ret1 rfl (r_tmp rfl) fun w hs => by rw [hE, hle]; exact Post.of_st hs (es2, clock2) hM3 (.cons _ (.cons _ (List.Sublist.refl _))) fun _ _ => trivial
theorem tadd_fnE (T m n : Nat) (es : Array MapEntry) (clock : Nat) (l : List H) (x : H) (hM : Mp es (tile l)) (hn : l.length = n) (l2 : List H) (n2 : Nat) (e : Int) (h : addL l x = l2) (h2 : l2.length = n2) (he : addE l = e) :
    FnSpec Tryd.prog Gs 42 [.pointer (some ⟨T, 0, none⟩), hv x] (Tc T m n es clock) F (ι := Array MapEntry × Nat) (fun q => Mp q.1 (tile l2)) (fun _ => .int .i64 e) (fun q => Tc T m n2 q.1 q.2) (fun _ _ => True) := by
  subst h h2 he; exact tadd_fn T m n es clock l x hM hn
end Go.Proofs.YtjkfeonbioccmaaDoor
