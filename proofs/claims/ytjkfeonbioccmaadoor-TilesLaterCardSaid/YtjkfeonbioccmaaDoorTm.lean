/- Speculum proofs: contracts: tiles that are copied, tiles that are none. -/
import Derived.Test.YtjkfeonbioccmaaDoorTj
import Derived.Test.YtjkfeonbioccmaaDoorSxZ
namespace Go.Proofs.YtjkfeonbioccmaaDoor
open Go Go.Sx Go.RowKit
set_option linter.unusedVariables false
set_option linter.unusedSimpArgs false
set_option maxRecDepth 100000
set_option maxHeartbeats 2000000
variable {Gl F : World → Prop}
theorem clone_fn (m : Nat) (es : Array MapEntry) (clock : Nat) (hF : ∀ w, F w → w.heap[m]? = some (.map es clock)) :
    FnSpec Tryd.prog Gl 119 [.map (some m)] [] F (ι := Nat) (fun _ => True) (fun g => .map (some g)) (fun g => [.mp g (.map es clock)]) (fun _ _ => True) := by
  refine FnSpec.intro Tryd.func119 rfl Tryd.ntmps119 rfl fun X M w => ?_
  refine JC.seq fun K1 hK1 => ?_
  refine JC.region ?_
  refine J.yl (y_assign rfl rfl) rfl rfl rfl ?_
  refine J.nil ?_
  refine JQ.next hK1 ?_
  refine JC.seq fun K2 hK2 => ?_
  refine JC.seq fun K3 hK3 => ?_
  refine JC.region ?_
  refine J.yl (y_move rfl rfl) rfl rfl rfl ?_
  refine J.yl ((y_mnil rfl Tryd.underlying55 rfl rfl).to rfl) rfl rfl rfl ?_
  refine J.nil ?_
  refine JQ.next hK3 ?_
  refine JC.no rfl ?_
  refine JC.skip ?_
  refine JQ.next hK2 ?_
  refine JC.seq fun K4 hK4 => ?_
  refine JC.region ?_
  refine J.yl (y_move rfl rfl) rfl rfl rfl ?_
  refine J.yl (y_mkI rfl Tryd.underlying55 rfl) rfl rfl rfl ?_
  refine J.clone rfl rfl rfl rfl Tryd.func166 (by kernel_rfl) (by kernel_rfl) (by kernel_rfl) (by kernel_rfl) rfl (fun w hs => hF w hs.fact) fun g => ?_
  refine J.yl (y_tyA rfl Tryd.underlying55 rfl) rfl rfl rfl ?_
  refine J.yl (y_assign rfl rfl) rfl rfl rfl ?_
  refine J.nil ?_
  refine JQ.next hK4 ?_
  refine JC.ret ?_
  exact ret1 rfl (r_tmp rfl) fun w hs => Post.of_st hs g trivial (List.Sublist.refl _) fun _ _ => trivial
theorem fill_S2 (gm : Nat) (n : Int) : Instr.fill (fun i : Nat => [(0, 1), (1, 1)][i]?) (#[.map none, .int .i64 0] : Array Value) [(0, .map (some gm)), (1, .int .i64 n)] = some #[.map (some gm), .int .i64 n] := by rfl
theorem tcopy_fn (T m n : Nat) (es : Array MapEntry) (clock : Nat) (hF : ∀ w, F w → Tt T m n es clock w) : FnSpec Tryd.prog Gl 44 [.pointer (some ⟨T, 0, none⟩)] [] F (ι := Nat × Nat) (fun _ => True) (fun q => .pointer (some ⟨q.1, 0, none⟩)) (fun q => Tc q.1 q.2 n es clock) (fun _ _ => True) := by
  refine FnSpec.intro Tryd.func44 rfl Tryd.ntmps44 rfl fun X M w => ?_
  refine JC.seq fun K1 hK1 => ?_
  refine JC.region ?_
  refine J.yl (y_assign rfl rfl) rfl rfl rfl ?_
  refine J.nil ?_
  refine JQ.next hK1 ?_
  refine JC.seq fun K2 hK2 => ?_
  refine JC.seq fun K3 hK3 => ?_
  refine JC.region ?_
  refine J.yl (y_move rfl rfl) rfl rfl rfl ?_
  refine J.callv rfl rfl rfl rfl Tb.cl115 rfl (none_fn T m n es clock (fun w h => hF w h.1)) ?_
  refine J.nil ?_
  refine JQ.next hK3 ?_
  refine JC.no rfl ?_
  refine JC.skip ?_
  refine JQ.next hK2 ?_
  refine JC.seq fun K4 hK4 => ?_
  refine JC.draw (by kernel_rfl) ?_
  refine D.take 0 (y_move rfl rfl) rfl rfl rfl rfl (by kernel_rfl) (by kernel_rfl) (by kernel_rfl) (PQ.next PQ.body) ?_
  refine D.take 1 (y_nilp rfl rfl) rfl rfl rfl rfl (by kernel_rfl) (by kernel_rfl) (by kernel_rfl) (PQ.next PQ.body) ?_
  refine D.take 2 (y_fb rfl Tb.fo57_0 rfl) rfl rfl rfl rfl (by kernel_rfl) (by kernel_rfl) (by kernel_rfl) (PQ.next PQ.body) ?_
  refine D.take 5 (y_move rfl rfl) rfl rfl rfl rfl (by kernel_rfl) (by kernel_rfl) (by kernel_rfl) (PQ.next PQ.body) ?_
  refine D.take 6 (y_nilp rfl rfl) rfl rfl rfl rfl (by kernel_rfl) (by kernel_rfl) (by kernel_rfl) (PQ.next PQ.body) ?_
  refine D.take 7 (y_fb rfl Tb.fo57_1 rfl) rfl rfl rfl rfl (by kernel_rfl) (by kernel_rfl) (by kernel_rfl) (PQ.next PQ.body) ?_
  refine D.take 3 (y_load1 rfl Tb.ag55 rfl (fun w hs => cell_box (hF w hs.fact).1 rfl)) rfl rfl rfl rfl (by kernel_rfl) (by kernel_rfl) (by kernel_rfl) (PQ.next PQ.body) ?_
  refine D.take 8 (y_load1 rfl Tb.ag3 rfl (fun w hs => cell_box (hF w hs.fact).1 rfl)) rfl rfl rfl rfl (by kernel_rfl) (by kernel_rfl) (by kernel_rfl) (PQ.next PQ.body) ?_
  refine D.callR 4 (by kernel_rfl) rfl rfl rfl rfl rfl Tb.cl119 rfl (clone_fn m es clock (fun w h => (hF w h.1).2)) ?_
  rintro g _
  refine D.take 9 (y_buildS (pl := [(0, 1), (1, 1)]) (zs := [.map none, .int .i64 0]) (cs := [.map (some g), .int .i64 (n : Int)]) rfl (by kernel_rfl) (by kernel_rfl) rfl (fill_S2 g n)) rfl rfl rfl rfl (by kernel_rfl) (by kernel_rfl) (by kernel_rfl) (PQ.next PQ.body) ?_
  refine D.ofJ0 10 (by kernel_rfl) rfl (by kernel_rfl) fun KhK5 hK5 => ?_
  refine J.box rfl rfl rfl rfl rfl rfl fun g15 => ?_
  refine J.nil ?_
  refine hK5 _ _ _ ?_
  refine D0.ofJ 11 (by kernel_rfl) rfl (by kernel_rfl) fun KhK6 hK6 => ?_
  refine J.yl (y_assign rfl rfl) rfl rfl rfl ?_
  refine J.nil ?_
  refine hK6 _ _ _ ?_
  refine D0.done (by kernel_rfl) ?_
  refine JQ.next hK4 ?_
  refine JC.ret ?_
  exact ret1 rfl (r_tmp rfl) fun w hs => Post.of_st hs (g15, g) trivial (List.Sublist.refl _) fun _ _ => trivial
/-! ### none -/
abbrev pN (b : Option Nat) : Value := .pointer (b.map fun T => ⟨T, 0, none⟩)
theorem none_no (b : Option Nat) (hF : ∀ T, b = some T → ∀ w, F w → (Chunk.box T 57 [.map none, .int .i64 0]).sat w) : PureFn Tryd.prog Gl 115 [pN b] F (.bool true) := by
  cases b with
  | none =>
    show PureFn _ _ _ [.pointer none] _ _
    refine FnSpec.intro Tryd.func115 rfl Tryd.ntmps115 rfl fun X M w => ?_
    refine JC.seq fun K1 hK1 => ?_
    refine JC.region ?_
    refine J.yl (y_assign rfl rfl) rfl rfl rfl ?_
    refine J.nil ?_
    refine JQ.next hK1 ?_
    refine JC.seq fun K2 hK2 => ?_
    refine JC.region ?_
    refine J.yl (y_move rfl rfl) rfl rfl rfl ?_
    refine J.yl ((y_pnil rfl Tryd.underlying39 rfl rfl).to rfl) rfl rfl rfl ?_
    refine J.yl (y_move rfl rfl) rfl rfl rfl ?_
    refine J.gno (b := true) rfl rfl rfl rfl rfl rfl ?_
    refine J.gno (b := true) rfl rfl rfl rfl rfl rfl ?_
    refine J.gno (b := true) rfl rfl rfl rfl rfl rfl ?_
    refine J.gno (b := true) rfl rfl rfl rfl rfl rfl ?_
    refine J.gno (b := true) rfl rfl rfl rfl rfl rfl ?_
    refine J.yl (y_pick rfl rfl (fun _ => rfl) (fun h => by cases h)) rfl rfl rfl ?_
    refine J.yl (y_assign rfl rfl) rfl rfl rfl ?_
    refine J.nil ?_
    refine JQ.next hK2 ?_
    refine JC.ret ?_
    exact ret1 rfl (r_tmp rfl) fun w hs => Post.pure hs
  | some T =>
    show PureFn _ _ _ [.pointer (some ⟨T, 0, none⟩)] _ _
    refine FnSpec.intro Tryd.func115 rfl Tryd.ntmps115 rfl fun X M w => ?_
    refine JC.seq fun K1 hK1 => ?_
    refine JC.region ?_
    refine J.yl (y_assign rfl rfl) rfl rfl rfl ?_
    refine J.nil ?_
    refine JQ.next hK1 ?_
    refine JC.seq fun K2 hK2 => ?_
    refine JC.region ?_
    refine J.yl (y_move rfl rfl) rfl rfl rfl ?_
    refine J.yl ((y_pnil rfl Tryd.underlying39 rfl rfl).to rfl) rfl rfl rfl ?_
    refine J.yl (y_move rfl rfl) rfl rfl rfl ?_
    refine J.gyes (y_move rfl rfl) rfl rfl rfl rfl rfl rfl ?_
    refine J.gyes (y_nilp rfl rfl) rfl rfl rfl rfl rfl rfl ?_
    refine J.gyes (y_fb rfl Tb.fo57_0 rfl) rfl rfl rfl rfl rfl rfl ?_
    refine J.gyes (y_load1 rfl Tb.ag55 rfl (fun w hs => cell_box (hF T rfl w hs.fact) rfl)) rfl rfl rfl rfl rfl rfl ?_
    refine J.gyes ((y_mnil rfl Tryd.underlying55 rfl rfl).to rfl) rfl rfl rfl rfl rfl rfl ?_
    refine J.yl (y_pick rfl rfl (fun h => by cases h) (fun _ => rfl)) rfl rfl rfl ?_
    refine J.yl (y_assign rfl rfl) rfl rfl rfl ?_
    refine J.nil ?_
    refine JQ.next hK2 ?_
    refine JC.ret ?_
    exact ret1 rfl (r_tmp rfl) fun w hs => Post.pure hs
theorem within_no (b : Option Nat) (z : Int) (hF : ∀ T, b = some T → ∀ w, F w → (Chunk.box T 57 [.map none, .int .i64 0]).sat w) : PureFn Tryd.prog Gl 116 [pN b, .int .i64 z] F (.int .i64 1) := by
  refine FnSpec.intro Tryd.func116 rfl Tryd.ntmps116 rfl fun X M w => ?_
  refine JC.seq fun K1 hK1 => ?_
  refine JC.region ?_
  refine J.yl (y_assign rfl rfl) rfl rfl rfl ?_
  refine J.nil ?_
  refine JQ.next hK1 ?_
  refine JC.seq fun K2 hK2 => ?_
  refine JC.block ?_
  refine JC.seq fun K3 hK3 => ?_
  refine JC.region ?_
  refine J.yl (y_move rfl rfl) rfl rfl rfl ?_
  refine J.callv rfl rfl rfl rfl Tb.cl115 rfl (none_no b (fun T hT w h => hF T hT w h.1)) ?_
  refine J.yl (y_assign rfl rfl) rfl rfl rfl ?_
  refine J.nil ?_
  refine JQ.next hK3 ?_
  refine JC.yes rfl ?_
  refine JC.seq fun K4 hK4 => ?_
  refine JC.region ?_
  refine J.yl (y_assign rfl rfl) rfl rfl rfl ?_
  refine J.nil ?_
  refine JQ.next hK4 ?_
  refine JC.ret ?_
  refine JQ.block_ret (JQ.then_ret ?_)
  exact ret1 rfl (r_tmp rfl) fun w hs => Post.pure hs
theorem size_no (b : Option Nat) (hF : ∀ T, b = some T → ∀ w, F w → (Chunk.box T 57 [.map none, .int .i64 0]).sat w) : PureFn Tryd.prog Gl 43 [pN b] F (.int .i64 0) := by
  refine FnSpec.intro Tryd.func43 rfl Tryd.ntmps43 rfl fun X M w => ?_
  refine JC.seq fun K1 hK1 => ?_
  refine JC.region ?_
  refine J.yl (y_assign rfl rfl) rfl rfl rfl ?_
  refine J.nil ?_
  refine JQ.next hK1 ?_
  refine JC.seq fun K2 hK2 => ?_
  refine JC.seq fun K3 hK3 => ?_
  refine JC.region ?_
  refine J.yl (y_move rfl rfl) rfl rfl rfl ?_
  refine J.callv rfl rfl rfl rfl Tb.cl115 rfl (none_no b (fun T hT w h => hF T hT w h.1)) ?_
  refine J.nil ?_
  refine JQ.next hK3 ?_
  refine JC.yes rfl ?_
  refine JC.seq fun K4 hK4 => ?_
  refine JC.region ?_
  refine J.yl (y_assign rfl rfl) rfl rfl rfl ?_
  refine J.nil ?_
  refine JQ.next hK4 ?_
  refine JC.ret ?_
  refine JQ.then_ret ?_
  exact ret1 rfl (r_tmp rfl) fun w hs => Post.pure hs
theorem node_no (b : Option Nat) (x y : Int) (hF : ∀ T, b = some T → ∀ w, F w → (Chunk.box T 57 [.map none, .int .i64 0]).sat w) : PureFn Tryd.prog Gl 33 [pN b, .int .i64 x, .int .i64 y] F (.tuple #[hv H.zero, .bool false]) := by
  refine FnSpec.intro Tryd.func33 rfl Tryd.ntmps33 rfl fun X M w => ?_
  refine JC.seq fun K1 hK1 => ?_
  refine JC.region ?_
  refine J.alloc rfl rfl rfl rfl Tb.zz30 rfl fun g6 => ?_
  refine J.yl (y_assign rfl rfl) rfl rfl rfl ?_
  refine J.nil ?_
  refine JQ.next hK1 ?_
  refine JC.seq fun K2 hK2 => ?_
  refine JC.seq fun K3 hK3 => ?_
  refine JC.region ?_
  refine J.yl (y_move rfl rfl) rfl rfl rfl ?_
  refine J.callv rfl rfl rfl rfl Tb.cl115 rfl (none_no b (fun T hT w h => hF T hT w h.1)) ?_
  refine J.nil ?_
  refine JQ.next hK3 ?_
  refine JC.yes rfl ?_
  refine JC.seq fun K4 hK4 => ?_
  refine JC.region ?_
  refine J.yl (y_buildA (cs := hc H.zero) rfl Tryd.underlying30 Tb.zz30 Tb.sz5 rfl rfl) rfl rfl rfl ?_
  refine J.storeW 0 rfl rfl rfl rfl rfl rfl rfl Tb.sz30 (hcl _) (hcl _) (hc1 _) ?_
  refine J.yl (y_assign rfl rfl) rfl rfl rfl ?_
  refine J.nil ?_
  refine JQ.next hK4 ?_
  refine JC.ret ?_
  refine JQ.then_ret ?_
  exact ret2 rfl (r_cellA 0 rfl rfl Tb.ag30 (by rw [hcl]; exact Tb.sz30)) (r_tmp rfl) fun w hs => Post.pure hs
theorem root_no (b : Option Nat) (x : Int) (hF : ∀ T, b = some T → ∀ w, F w → (Chunk.box T 57 [.map none, .int .i64 0]).sat w) : PureFn Tryd.prog Gl 35 [pN b, .int .i64 x] F (.tuple #[hv H.zero, .int .i64 1]) := by
  refine FnSpec.intro Tryd.func35 rfl Tryd.ntmps35 rfl fun X M w => ?_
  refine JC.seq fun K1 hK1 => ?_
  refine JC.region ?_
  refine J.alloc rfl rfl rfl rfl Tb.zz30 rfl fun g4 => ?_
  refine J.yl (y_assign rfl rfl) rfl rfl rfl ?_
  refine J.nil ?_
  refine JQ.next hK1 ?_
  refine JC.seq fun K2 hK2 => ?_
  refine JC.seq fun K3 hK3 => ?_
  refine JC.region ?_
  refine J.yl (y_move rfl rfl) rfl rfl rfl ?_
  refine J.yl (y_move rfl rfl) rfl rfl rfl ?_
  refine J.callv rfl rfl rfl rfl Tb.cl116 rfl (within_no b x (fun T hT w h => hF T hT w h.1)) ?_
  refine J.yl (y_assign rfl rfl) rfl rfl rfl ?_
  refine J.nil ?_
  refine JQ.next hK3 ?_
  refine JC.seq fun K4 hK4 => ?_
  refine JC.region ?_
  refine J.yl (y_move rfl rfl) rfl rfl rfl ?_
  refine J.yl (y_ne rfl rfl rfl) rfl rfl rfl ?_
  refine J.nil ?_
  refine JQ.next hK4 ?_
  refine JC.condn rfl (fun h1 => ?_) (fun h1 => ?_)
  · refine JC.seq fun K5 hK5 => ?_
    refine JC.region ?_
    refine J.yl (y_buildA (cs := hc H.zero) rfl Tryd.underlying30 Tb.zz30 Tb.sz5 rfl rfl) rfl rfl rfl ?_
    refine J.yl (y_move rfl rfl) rfl rfl rfl ?_
    refine J.storeW 0 rfl rfl rfl rfl rfl rfl rfl Tb.sz30 (hcl _) (hcl _) (hc1 _) ?_
    refine J.yl (y_assign rfl rfl) rfl rfl rfl ?_
    refine J.nil ?_
    refine JQ.next hK5 ?_
    refine JC.ret ?_
    refine JQ.then_ret ?_
    exact ret2 rfl (r_cellA 0 rfl rfl Tb.ag30 (by rw [hcl]; exact Tb.sz30)) (r_tmp rfl) fun w hs => Post.pure hs
  · exact absurd h1 (by decide)
theorem path_no (b : Option Nat) (x y : Int) (hF : ∀ T, b = some T → ∀ w, F w → (Chunk.box T 57 [.map none, .int .i64 0]).sat w) : PureFn Tryd.prog Gl 37 [pN b, .int .i64 x, .int .i64 y] F (.tuple #[.slice none 0 0, .int .i64 1]) := by
  refine FnSpec.intro Tryd.func37 rfl Tryd.ntmps37 rfl fun X M w => ?_
  refine JC.seq fun K1 hK1 => ?_
  refine JC.region ?_
  refine J.yl (y_assign rfl rfl) rfl rfl rfl ?_
  refine J.yl (y_assign rfl rfl) rfl rfl rfl ?_
  refine J.nil ?_
  refine JQ.next hK1 ?_
  refine JC.seq fun K2 hK2 => ?_
  refine JC.region ?_
  refine J.yl (y_move rfl rfl) rfl rfl rfl ?_
  refine J.yl (y_move rfl rfl) rfl rfl rfl ?_
  refine J.callv rfl rfl rfl rfl Tb.cl116 rfl (within_no b y (fun T hT w h => hF T hT w h.1)) ?_
  refine J.yl (y_assign rfl rfl) rfl rfl rfl ?_
  refine J.nil ?_
  refine JQ.next hK2 ?_
  refine JC.seq fun K3 hK3 => ?_
  refine JC.block ?_
  refine JC.seq fun K4 hK4 => ?_
  refine JC.region ?_
  refine J.yl (y_move rfl rfl) rfl rfl rfl ?_
  refine J.yl (y_ne rfl rfl rfl) rfl rfl rfl ?_
  refine J.yl (y_assign rfl rfl) rfl rfl rfl ?_
  refine J.nil ?_
  refine JQ.next hK4 ?_
  refine JC.condn rfl (fun h1 => ?_) (fun h1 => ?_)
  · refine JC.seq fun K5 hK5 => ?_
    refine JC.region ?_
    refine J.yl (y_move rfl rfl) rfl rfl rfl ?_
    refine J.yl (y_assign rfl rfl) rfl rfl rfl ?_
    refine J.yl (y_assign rfl rfl) rfl rfl rfl ?_
    refine J.nil ?_
    refine JQ.next hK5 ?_
    refine JC.ret ?_
    refine JQ.block_ret (JQ.then_ret ?_)
    exact ret2 rfl (r_tmp rfl) (r_tmp rfl) fun w hs => Post.pure hs
  · exact absurd h1 (by decide)
theorem proof_no (b : Option Nat) (x y : Int) (hF : ∀ T, b = some T → ∀ w, F w → (Chunk.box T 57 [.map none, .int .i64 0]).sat w) : PureFn Tryd.prog Gl 39 [pN b, .int .i64 x, .int .i64 y] F (.tuple #[.slice none 0 0, .int .i64 1]) := by
  refine FnSpec.intro Tryd.func39 rfl Tryd.ntmps39 rfl fun X M w => ?_
  refine JC.seq fun K1 hK1 => ?_
  refine JC.region ?_
  refine J.yl (y_assign rfl rfl) rfl rfl rfl ?_
  refine J.yl (y_assign rfl rfl) rfl rfl rfl ?_
  refine J.nil ?_
  refine JQ.next hK1 ?_
  refine JC.seq fun K2 hK2 => ?_
  refine JC.region ?_
  refine J.yl (y_move rfl rfl) rfl rfl rfl ?_
  refine J.yl (y_move rfl rfl) rfl rfl rfl ?_
  refine J.callv rfl rfl rfl rfl Tb.cl116 rfl (within_no b y (fun T hT w h => hF T hT w h.1)) ?_
  refine J.yl (y_assign rfl rfl) rfl rfl rfl ?_
  refine J.nil ?_
  refine JQ.next hK2 ?_
  refine JC.seq fun K3 hK3 => ?_
  refine JC.block ?_
  refine JC.seq fun K4 hK4 => ?_
  refine JC.region ?_
  refine J.yl (y_move rfl rfl) rfl rfl rfl ?_
  refine J.yl (y_ne rfl rfl rfl) rfl rfl rfl ?_
  refine J.yl (y_assign rfl rfl) rfl rfl rfl ?_
  refine J.nil ?_
  refine JQ.next hK4 ?_
  refine JC.condn rfl (fun h1 => ?_) (fun h1 => ?_)
  · refine JC.seq fun K5 hK5 => ?_
    refine JC.region ?_
    refine J.yl (y_move rfl rfl) rfl rfl rfl ?_
    refine J.yl (y_assign rfl rfl) rfl rfl rfl ?_
    refine J.yl (y_assign rfl rfl) rfl rfl rfl ?_
    refine J.nil ?_
    refine JQ.next hK5 ?_
    refine JC.ret ?_
    refine JQ.block_ret (JQ.then_ret ?_)
    exact ret2 rfl (r_tmp rfl) (r_tmp rfl) fun w hs => Post.pure hs
  · exact absurd h1 (by decide)
theorem add_no (b : Option Nat) (x : H) (hF : ∀ T, b = some T → ∀ w, F w → (Chunk.box T 57 [.map none, .int .i64 0]).sat w) : PureFn Tryd.prog Gl 42 [pN b, hv x] F (.int .i64 1) := by
  refine FnSpec.intro Tryd.func42 rfl Tryd.ntmps42 rfl fun X M w => ?_
  refine JC.seq fun K1 hK1 => ?_
  refine JC.region ?_
  refine J.box rfl rfl rfl rfl rfl rfl fun g3 => ?_
  refine J.yl (y_assign rfl rfl) rfl rfl rfl ?_
  refine J.nil ?_
  refine JQ.next hK1 ?_
  refine JC.seq fun K2 hK2 => ?_
  refine JC.block ?_
  refine JC.seq fun K3 hK3 => ?_
  refine JC.region ?_
  refine J.yl (y_move rfl rfl) rfl rfl rfl ?_
  refine J.callv rfl rfl rfl rfl Tb.cl115 rfl (none_no b (fun T hT w h => hF T hT w h.1)) ?_
  refine J.yl (y_assign rfl rfl) rfl rfl rfl ?_
  refine J.nil ?_
  refine JQ.next hK3 ?_
  refine JC.yes rfl ?_
  refine JC.seq fun K4 hK4 => ?_
  refine JC.region ?_
  refine J.yl (y_assign rfl rfl) rfl rfl rfl ?_
  refine J.nil ?_
  refine JQ.next hK4 ?_
  refine JC.ret ?_
  refine JQ.block_ret (JQ.then_ret ?_)
  exact ret1 rfl (r_tmp rfl) fun w hs => Post.pure hs
theorem copy_no (b : Option Nat) (hF : ∀ T, b = some T → ∀ w, F w → (Chunk.box T 57 [.map none, .int .i64 0]).sat w) : PureFn Tryd.prog Gl 44 [pN b] F (.pointer none) := by
  refine FnSpec.intro Tryd.func44 rfl Tryd.ntmps44 rfl fun X M w => ?_
  refine JC.seq fun K1 hK1 => ?_
  refine JC.region ?_
  refine J.yl (y_assign rfl rfl) rfl rfl rfl ?_
  refine J.nil ?_
  refine JQ.next hK1 ?_
  refine JC.seq fun K2 hK2 => ?_
  refine JC.seq fun K3 hK3 => ?_
  refine JC.region ?_
  refine J.yl (y_move rfl rfl) rfl rfl rfl ?_
  refine J.callv rfl rfl rfl rfl Tb.cl115 rfl (none_no b (fun T hT w h => hF T hT w h.1)) ?_
  refine J.nil ?_
  refine JQ.next hK3 ?_
  refine JC.yes rfl ?_
  refine JC.seq fun K4 hK4 => ?_
  refine JC.region ?_
  refine J.yl (y_assign rfl rfl) rfl rfl rfl ?_
  refine J.nil ?_
  refine JQ.next hK4 ?_
  refine JC.ret ?_
  refine JQ.then_ret ?_
  exact ret1 rfl (r_tmp rfl) fun w hs => Post.pure hs
theorem fill_S0 : Instr.fill (fun i : Nat => [(0, 1), (1, 1)][i]?) (#[.map none, .int .i64 0] : Array Value) [] = some #[.map none, .int .i64 0] := by rfl
/-- Tiles that are none have nothing, and take nothing. -/
theorem law_TilesNone (x : H) (na nb : Int) : PureFn Tryd.prog Gs 8 [hv x, kv na nb] F (.bool true) := by
  refine FnSpec.intro Tryd.func8 rfl Tryd.ntmps8 rfl fun X M w => ?_
  refine JC.seq fun K1 hK1 => ?_
  refine JC.region ?_
  refine J.box rfl rfl rfl rfl rfl rfl fun g2 => ?_
  refine J.box rfl rfl rfl rfl rfl rfl fun g3 => ?_
  refine J.yl (y_assign rfl rfl) rfl rfl rfl ?_
  refine J.nil ?_
  refine JQ.next hK1 ?_
  refine JC.seq fun K2 hK2 => ?_
  refine JC.region ?_
  refine J.yl (y_assign rfl rfl) rfl rfl rfl ?_
  refine J.nil ?_
  refine JQ.next hK2 ?_
  refine JC.seq fun K3 hK3 => ?_
  refine JC.seq fun K4 hK4 => ?_
  refine JC.region ?_
  refine J.yl (y_assign rfl rfl) rfl rfl rfl ?_
  refine J.nil ?_
  refine JQ.next hK4 ?_
  refine JC.block ?_
  refine JC.loopE (σ := Nat × Option Nat) (M := fun q => [(5, pN q.2), (6, .int .i64 (q.1 : Int))]) (kp := [(2, _), (3, _)]) (hkp := (okE_cons rfl (okE_cons rfl okE_nil))) (Dc := fun q => [.box g3 38 [.int .i64 na, .int .i64 nb], .box g2 30 (hc x)] ++ (match q.2 with | some T => [.box T 57 [.map none, .int .i64 0]] | none => [])) (H := fun _ => F) (Ψ := fun q => q.1 ≤ 2) (μ := fun q => 2 - q.1) (0, none) (by dsimp only; omega) (okE_cons rfl (okE_cons rfl okE_nil)) (fun w h => h) (fun sK5 hK5 K5 againK5 => ?_)
  obtain ⟨i, b⟩ := sK5
  dsimp only at hK5 againK5 ⊢
  obtain hi := hK5
  refine JC.seq fun K6 hK6 => ?_
  refine JC.seq fun K7 hK7 => ?_
  refine JC.region ?_
  refine J.yl (y_move rfl rfl) rfl rfl rfl ?_
  refine J.yl (y_lt rfl rfl rfl) rfl rfl rfl ?_
  refine J.nil ?_
  refine JQ.next hK7 ?_
  refine JC.condp rfl (fun h1 => ?_) (fun h1 => ?_)
  · refine JC.skip ?_
    refine JQ.next hK6 ?_
    refine JC.seq fun K8 hK8 => ?_
    refine JC.block ?_
    refine JC.seq fun K9 hK9 => ?_
    refine JC.region ?_
    refine J.yl (y_move rfl rfl) rfl rfl rfl ?_
    refine J.yl (y_ib rfl Tryd.underlying38 Tb.sz3 rfl rfl (by decide)) rfl rfl rfl ?_
    refine J.yl (y_lb 0 rfl Tb.ag3 rfl rfl rfl) rfl rfl rfl ?_
    refine J.yl (y_ib rfl Tryd.underlying38 Tb.sz3 rfl rfl (by decide)) rfl rfl rfl ?_
    refine J.yl (y_lb 0 rfl Tb.ag3 rfl rfl rfl) rfl rfl rfl ?_
    refine J.callv rfl rfl rfl rfl Tb.cl33 rfl (node_no b na nb (fun T hT w h => by subst hT; exact h.2 _ (by simp))) ?_
    refine J.yl (y_move rfl rfl) rfl rfl rfl ?_
    refine J.yl (y_extract rfl rfl rfl) rfl rfl rfl ?_
    refine J.yl (y_extract rfl rfl rfl) rfl rfl rfl ?_
    refine J.alloc rfl rfl rfl rfl Tb.zz30 rfl fun g7 => ?_
    refine J.storeW 0 rfl rfl rfl rfl rfl rfl rfl Tb.sz30 (hcl _) (hcl _) (hc1 _) ?_
    refine J.yl (y_assign rfl rfl) rfl rfl rfl ?_
    refine J.nil ?_
    refine JQ.next hK9 ?_
    refine JC.seq fun K10 hK10 => ?_
    refine JC.region ?_
    refine J.yl (y_move rfl rfl) rfl rfl rfl ?_
    refine J.yl (y_ib rfl Tryd.underlying38 Tb.sz3 rfl rfl (by decide)) rfl rfl rfl ?_
    refine J.yl (y_lb 1 rfl Tb.ag3 rfl rfl rfl) rfl rfl rfl ?_
    refine J.callv rfl rfl rfl rfl Tb.cl35 rfl (root_no b na (fun T hT w h => by subst hT; exact h.2 _ (by simp))) ?_
    refine J.yl (y_move rfl rfl) rfl rfl rfl ?_
    refine J.yl (y_extract rfl rfl rfl) rfl rfl rfl ?_
    refine J.yl (y_extract rfl rfl rfl) rfl rfl rfl ?_
    refine J.alloc rfl rfl rfl rfl Tb.zz30 rfl fun g9 => ?_
    refine J.storeW 0 rfl rfl rfl rfl rfl rfl rfl Tb.sz30 (hcl _) (hcl _) (hc1 _) ?_
    refine J.yl (y_assign rfl rfl) rfl rfl rfl ?_
    refine J.nil ?_
    refine JQ.next hK10 ?_
    refine JC.seq fun K11 hK11 => ?_
    refine JC.region ?_
    refine J.yl (y_move rfl rfl) rfl rfl rfl ?_
    refine J.yl (y_ib rfl Tryd.underlying38 Tb.sz3 rfl rfl (by decide)) rfl rfl rfl ?_
    refine J.yl (y_lb 2 rfl Tb.ag3 rfl rfl rfl) rfl rfl rfl ?_
    refine J.yl (y_ib rfl Tryd.underlying38 Tb.sz3 rfl rfl (by decide)) rfl rfl rfl ?_
    refine J.yl (y_lb 2 rfl Tb.ag3 rfl rfl rfl) rfl rfl rfl ?_
    refine J.callv rfl rfl rfl rfl Tb.cl37 rfl (path_no b na nb (fun T hT w h => by subst hT; exact h.2 _ (by simp))) ?_
    refine J.yl (y_move rfl rfl) rfl rfl rfl ?_
    refine J.yl (y_extract rfl rfl rfl) rfl rfl rfl ?_
    refine J.yl (y_extract rfl rfl rfl) rfl rfl rfl ?_
    refine J.yl (y_assign rfl rfl) rfl rfl rfl ?_
    refine J.yl (y_assign rfl rfl) rfl rfl rfl ?_
    refine J.nil ?_
    refine JQ.next hK11 ?_
    refine JC.seq fun K12 hK12 => ?_
    refine JC.region ?_
    refine J.yl (y_move rfl rfl) rfl rfl rfl ?_
    refine J.yl (y_ib rfl Tryd.underlying38 Tb.sz3 rfl rfl (by decide)) rfl rfl rfl ?_
    refine J.yl (y_lb 2 rfl Tb.ag3 rfl rfl rfl) rfl rfl rfl ?_
    refine J.yl (y_ib rfl Tryd.underlying38 Tb.sz3 rfl rfl (by decide)) rfl rfl rfl ?_
    refine J.yl (y_lb 2 rfl Tb.ag3 rfl rfl rfl) rfl rfl rfl ?_
    refine J.callv rfl rfl rfl rfl Tb.cl39 rfl (proof_no b na nb (fun T hT w h => by subst hT; exact h.2 _ (by simp))) ?_
    refine J.yl (y_move rfl rfl) rfl rfl rfl ?_
    refine J.yl (y_extract rfl rfl rfl) rfl rfl rfl ?_
    refine J.yl (y_extract rfl rfl rfl) rfl rfl rfl ?_
    refine J.yl (y_assign rfl rfl) rfl rfl rfl ?_
    refine J.yl (y_assign rfl rfl) rfl rfl rfl ?_
    refine J.nil ?_
    refine JQ.next hK12 ?_
    refine JC.seq fun K13 hK13 => ?_
    refine JC.seq fun K14 hK14 => ?_
    refine JC.region ?_
    refine J.yl (y_move rfl rfl) rfl rfl rfl ?_
    refine J.yl (y_lbW 3 rfl Tb.ag30 Tb.sz30 (hcl _) rfl rfl) rfl rfl rfl ?_
    refine J.callv rfl rfl rfl rfl Tb.cl42 rfl (add_no b x (fun T hT w h => by subst hT; exact h.2 _ (by simp))) ?_
    refine J.yl ((y_ne rfl rfl rfl).to rfl) rfl rfl rfl ?_
    refine J.yl (y_move rfl rfl) rfl rfl rfl ?_
    refine J.gyes (y_move rfl rfl) rfl rfl rfl rfl rfl rfl ?_
    refine J.gon rfl rfl rfl rfl ?_
    refine J.callv rfl rfl rfl rfl Tb.cl43 rfl (size_no b (fun T hT w h => by subst hT; exact h.2 _ (by simp))) ?_
    refine J.gyes ((y_ne rfl rfl rfl).to rfl) rfl rfl rfl rfl rfl rfl ?_
    refine J.yl (y_pick rfl rfl (fun h => by cases h) (fun _ => rfl)) rfl rfl rfl ?_
    refine J.yl (y_move rfl rfl) rfl rfl rfl ?_
    refine J.gyes (y_lbW 1 rfl Tb.ag30 Tb.sz30 (hcl _) rfl rfl) rfl rfl rfl rfl rfl rfl ?_
    refine J.gyes (y_buildA (cs := hc H.zero) rfl Tryd.underlying30 Tb.zz30 Tb.sz5 rfl rfl) rfl rfl rfl rfl rfl rfl ?_
    refine J.gyes (Yl.to (v' := .bool false) (y_hne rfl Tryd.underlying30 Tryd.underlying5 Tb.ag5 Tb.sz5 Tb.eg30 rfl rfl) (by rw [decide_eq_true rfl]; first | done | rfl)) rfl rfl rfl rfl rfl rfl ?_
    refine J.yl (y_pick rfl rfl (fun h => by cases h) (fun _ => rfl)) rfl rfl rfl ?_
    refine J.yl (y_move rfl rfl) rfl rfl rfl ?_
    refine J.gyes (y_move rfl rfl) rfl rfl rfl rfl rfl rfl ?_
    refine J.yl (y_pick rfl rfl (fun h => by cases h) (fun _ => rfl)) rfl rfl rfl ?_
    refine J.yl (y_move rfl rfl) rfl rfl rfl ?_
    refine J.gyes (y_lbW 0 rfl Tb.ag30 Tb.sz30 (hcl _) rfl rfl) rfl rfl rfl rfl rfl rfl ?_
    refine J.gyes (y_buildA (cs := hc H.zero) rfl Tryd.underlying30 Tb.zz30 Tb.sz5 rfl rfl) rfl rfl rfl rfl rfl rfl ?_
    refine J.gyes (Yl.to (v' := .bool false) (y_hne rfl Tryd.underlying30 Tryd.underlying5 Tb.ag5 Tb.sz5 Tb.eg30 rfl rfl) (by rw [decide_eq_true rfl]; first | done | rfl)) rfl rfl rfl rfl rfl rfl ?_
    refine J.yl (y_pick rfl rfl (fun h => by cases h) (fun _ => rfl)) rfl rfl rfl ?_
    refine J.yl (y_move rfl rfl) rfl rfl rfl ?_
    refine J.gyes (y_move rfl rfl) rfl rfl rfl rfl rfl rfl ?_
    refine J.gyes ((y_ne rfl rfl rfl).to rfl) rfl rfl rfl rfl rfl rfl ?_
    refine J.yl (y_pick rfl rfl (fun h => by cases h) (fun _ => rfl)) rfl rfl rfl ?_
    refine J.yl (y_move rfl rfl) rfl rfl rfl ?_
    refine J.gyes (y_move rfl rfl) rfl rfl rfl rfl rfl rfl ?_
    refine J.gyes (y_len rfl Tryd.underlying22 rfl) rfl rfl rfl rfl rfl rfl ?_
    refine J.gyes ((y_ne rfl rfl rfl).to rfl) rfl rfl rfl rfl rfl rfl ?_
    refine J.yl (y_pick rfl rfl (fun h => by cases h) (fun _ => rfl)) rfl rfl rfl ?_
    refine J.yl (y_move rfl rfl) rfl rfl rfl ?_
    refine J.gyes (y_move rfl rfl) rfl rfl rfl rfl rfl rfl ?_
    refine J.gyes ((y_ne rfl rfl rfl).to rfl) rfl rfl rfl rfl rfl rfl ?_
    refine J.yl (y_pick rfl rfl (fun h => by cases h) (fun _ => rfl)) rfl rfl rfl ?_
    refine J.yl (y_move rfl rfl) rfl rfl rfl ?_
    refine J.gyes (y_move rfl rfl) rfl rfl rfl rfl rfl rfl ?_
    refine J.gyes (y_len rfl Tryd.underlying22 rfl) rfl rfl rfl rfl rfl rfl ?_
    refine J.gyes ((y_ne rfl rfl rfl).to rfl) rfl rfl rfl rfl rfl rfl ?_
    refine J.yl (y_pick rfl rfl (fun h => by cases h) (fun _ => rfl)) rfl rfl rfl ?_
    refine J.yl (y_move rfl rfl) rfl rfl rfl ?_
    refine J.gyes (y_move rfl rfl) rfl rfl rfl rfl rfl rfl ?_
    refine J.gyes ((y_ne rfl rfl rfl).to rfl) rfl rfl rfl rfl rfl rfl ?_
    refine J.yl (y_pick rfl rfl (fun h => by cases h) (fun _ => rfl)) rfl rfl rfl ?_
    refine J.yl (y_move rfl rfl) rfl rfl rfl ?_
    refine J.gyes (y_move rfl rfl) rfl rfl rfl rfl rfl rfl ?_
    refine J.gon rfl rfl rfl rfl ?_
    refine J.callv rfl rfl rfl rfl Tb.cl44 rfl (copy_no b (fun T hT w h => by subst hT; exact h.2 _ (by simp))) ?_
    refine J.gyes ((y_pnn rfl Tryd.underlying39 rfl rfl).to rfl) rfl rfl rfl rfl rfl rfl ?_
    refine J.yl (y_pick rfl rfl (fun h => by cases h) (fun _ => rfl)) rfl rfl rfl ?_
    refine J.nil ?_
    refine JQ.next hK14 ?_
    refine JC.no rfl ?_
    refine JC.skip ?_
    refine JQ.next hK13 ?_
    refine JC.region ?_
    refine J.yl (y_buildS (pl := [(0, 1), (1, 1)]) (zs := [.map none, .int .i64 0]) (cs := [.map none, .int .i64 0]) rfl (by kernel_rfl) (by kernel_rfl) rfl fill_S0) rfl rfl rfl ?_
    refine J.box rfl rfl rfl rfl rfl rfl fun g103 => ?_
    refine J.yl (y_assign rfl rfl) rfl rfl rfl ?_
    refine J.nil ?_
    refine JQ.block_normal (JQ.next hK8 ?_)
    refine JC.region ?_
    refine J.yl (y_move rfl rfl) rfl rfl rfl ?_
    refine J.yl (y_add64 rfl rfl rfl (by omega)) rfl rfl rfl ?_
    refine J.yl (y_assign rfl rfl) rfl rfl rfl ?_
    refine J.nil ?_
    refine JQ.front 0 rfl ?_
    refine JQ.front 4 rfl ?_
    refine JQ.front 4 rfl ?_
    refine JQ.keepn 3 ?_
    refine againK5 (i + 1, some g103) _ (by dsimp only; omega) (by dsimp only; omega) (okE_cons rfl (okE_cons (slotI (by dsimp only; omega)) okE_nil)) (okE_cons rfl (okE_cons rfl okE_nil))
  · refine JC.exit ?_
    refine JQ.then_exit (JQ.then_exit (JQ.block_hit (JQ.next hK3 ?_)))
    refine JC.seq fun K15 hK15 => ?_
    refine JC.region ?_
    refine J.callv rfl rfl rfl rfl Tb.cl31 rfl (tiled_fn) ?_
    refine J.yl (y_assign rfl rfl) rfl rfl rfl ?_
    refine J.nil ?_
    refine JQ.next hK15 ?_
    refine JC.ret ?_
    exact ret1 rfl (r_tmp rfl) fun w hs => Post.pure hs
end Go.Proofs.YtjkfeonbioccmaaDoor
