/- Speculum proofs: contracts: tiles that are read. -/
import Derived.Test.YtjkfeonbioccmaaDoorFc
import Derived.Test.YtjkfeonbioccmaaDoorSxMap
import Derived.Test.YtjkfeonbioccmaaDoorSxY
import Derived.Test.YtjkfeonbioccmaaDoorPt
namespace Go.Proofs.YtjkfeonbioccmaaDoor
open Go Go.Sx Go.RowKit
set_option linter.unusedVariables false
set_option linter.unusedSimpArgs false
set_option maxRecDepth 100000
set_option maxHeartbeats 1000000
variable {Gl F : World → Prop}
theorem laidOutT : laidOutB Tryd.prog = true := by kernel_rfl
theorem mkKey : MK Tryd.prog 38 := by
  have hrow : 38 < Tryd.prog.types.size := of_decide_eq_true (by kernel_rfl)
  refine ⟨deep_law_laid laidOutT (m := 2) (by omega) hrow (by kernel_rfl) (by kernel_rfl), fun a b ha hb => ?_⟩
  have hw : ∀ z : Int, in64 z → (Lit.int .i64 z).wf = true := fun z hz => by
    unfold in64 at hz
    simp [Lit.wf, IntKind.min, IntKind.max, IntKind.signed, IntKind.bits]
    omega
  have hwa := hw a ha
  have hwb := hw b hb
  have c1 : Tryd.prog.cellsOf 3 = 1 := by kernel_rfl
  have c2 : Tryd.prog.cellsOf 38 = 2 := by kernel_rfl
  have hk : Tryd.prog.keyType 38 = true := by kernel_rfl
  obtain ⟨d, hd⟩ : ∃ d, Tryd.prog.types.size = d + 1 := ⟨Tryd.prog.types.size - 1, by omega⟩
  have hf : (kv a b).formed Tryd.prog 38 = true := by
    simp only [kv, Value.formed, Tryd.underlying38, c2]; rfl
  unfold keyOf
  simp only [Tryd.underlying38]
  rw [hk, hf, hd]
  simp [Program.keyLits, Tryd.underlying38, Tryd.underlying3, c1, c2, kv, Value.cells, hwa, hwb, List.range, List.range.loop]
/-- Tiles that are read: their struct, their map. -/
def Tt (T m n : Nat) (es : Array MapEntry) (clock : Nat) (w : World) : Prop := (Chunk.box T 57 [.map (some m), .int .i64 (n : Int)]).sat w ∧ w.heap[m]? = some (.map es clock)
theorem none_fn (T m n : Nat) (es : Array MapEntry) (clock : Nat) (hF : ∀ w, F w → Tt T m n es clock w) : PureFn Tryd.prog Gl 115 [.pointer (some ⟨T, 0, none⟩)] F (.bool false) := by
  refine FnSpec.intro Tryd.func115 rfl Tryd.ntmps115 rfl fun X M w => ?_
  refine JC.seq fun K1 hK1 => ?_
  refine JC.region ?_
  refine J.yl (y_assign rfl rfl) rfl rfl rfl ?_
  refine J.nil ?_
  refine JQ.next hK1 ?_
  refine JC.seq fun K2 hK2 => ?_
  refine JC.region ?_
  refine J.yl (y_move rfl rfl) rfl rfl rfl ?_
  refine J.yl ((y_pnil rfl Tryd.underlying39 rfl rfl).to rfl) rfl rfl rfl ?_
  refine J.yl (y_move rfl rfl) rfl rfl rfl ?_
  refine J.gyes (y_move rfl rfl) rfl rfl rfl rfl rfl rfl ?_
  refine J.gyes (y_nilp rfl rfl) rfl rfl rfl rfl rfl rfl ?_
  refine J.gyes (y_fb rfl Tb.fo57_0 rfl) rfl rfl rfl rfl rfl rfl ?_
  refine J.gyes (y_load1 rfl Tb.ag55 rfl (fun w hs => cell_box (hF w hs.fact).1 rfl)) rfl rfl rfl rfl rfl rfl ?_
  refine J.gyes ((y_mnil rfl Tryd.underlying55 rfl rfl).to rfl) rfl rfl rfl rfl rfl rfl ?_
  refine J.yl (y_pick rfl rfl (fun h => by cases h) (fun _ => rfl)) rfl rfl rfl ?_
  refine J.yl (y_assign rfl rfl) rfl rfl rfl ?_
  refine J.nil ?_
  refine JQ.next hK2 ?_
  refine JC.ret ?_
  exact ret1 rfl (r_tmp rfl) fun w hs => Post.pure hs
theorem fillK2 (a b : Int) : Instr.fill (fun i => some (i * 1, 1)) #[.int .i64 0, .int .i64 0] [(0, .int .i64 a), (1, .int .i64 b)] = some #[.int .i64 a, .int .i64 b] := fill_all [.int .i64 a, .int .i64 b] 0 [] [.int .i64 0, .int .i64 0] (by
  intro v hv
  simp only [List.mem_cons, List.not_mem_nil, or_false] at hv
  rcases hv with rfl | rfl <;> rfl) rfl rfl
/-- Whether so many leaves are there. -/
def wthE (n : Nat) (z : Int) : Int := if z < 0 ∨ (n : Int) < z then 82 else 0
theorem within_fn (T m n : Nat) (es : Array MapEntry) (clock : Nat) (z : Int) (hF : ∀ w, F w → Tt T m n es clock w) : PureFn Tryd.prog Gl 116 [.pointer (some ⟨T, 0, none⟩), .int .i64 z] F (.int .i64 (wthE n z)) := by
  refine FnSpec.intro Tryd.func116 rfl Tryd.ntmps116 rfl fun X M w => ?_
  refine JC.seq fun K1 hK1 => ?_
  refine JC.region ?_
  refine J.yl (y_assign rfl rfl) rfl rfl rfl ?_
  refine J.nil ?_
  refine JQ.next hK1 ?_
  refine JC.seq fun K2 hK2 => ?_
  refine JC.block ?_
  refine JC.seq fun K3 hK3 => ?_
  refine JC.region ?_
  refine J.yl (y_move rfl rfl) rfl rfl rfl ?_
  refine J.callv rfl rfl rfl rfl Tb.cl115 rfl (none_fn T m n es clock (fun w h => hF w h.1)) ?_
  refine J.yl (y_assign rfl rfl) rfl rfl rfl ?_
  refine J.nil ?_
  refine JQ.next hK3 ?_
  refine JC.no rfl ?_
  refine JC.seq fun K4 hK4 => ?_
  refine JC.region ?_
  refine J.yl (y_move rfl rfl) rfl rfl rfl ?_
  refine J.ylp (y_lt rfl rfl rfl) rfl rfl rfl (fun h1 => ?_) (fun h1 => ?_)
  · refine J.yl (y_move rfl rfl) rfl rfl rfl ?_
    refine J.gno (b := true) rfl rfl rfl rfl rfl rfl ?_
    refine J.gno (b := true) rfl rfl rfl rfl rfl rfl ?_
    refine J.gno (b := true) rfl rfl rfl rfl rfl rfl ?_
    refine J.gno (b := true) rfl rfl rfl rfl rfl rfl ?_
    refine J.gno (b := true) rfl rfl rfl rfl rfl rfl ?_
    refine J.gno (b := true) rfl rfl rfl rfl rfl rfl ?_
    refine J.yl (y_pick rfl rfl (fun _ => rfl) (fun h => by cases h)) rfl rfl rfl ?_
    refine J.yl (y_assign rfl rfl) rfl rfl rfl ?_
    refine J.nil ?_
    refine JQ.next hK4 ?_
    refine JC.yes rfl ?_
    refine JC.seq fun K5 hK5 => ?_
    refine JC.region ?_
    refine J.yl (y_assign rfl rfl) rfl rfl rfl ?_
    refine J.nil ?_
    refine JQ.next hK5 ?_
    refine JC.ret ?_
    refine JQ.block_ret (JQ.then_ret ?_)
    exact ret1 rfl (r_tmp rfl) fun w hs => by rw [show wthE n z = 82 from if_pos (.inl h1)]; exact Post.pure hs
  · refine J.yl (y_move rfl rfl) rfl rfl rfl ?_
    refine J.gyes (y_move rfl rfl) rfl rfl rfl rfl rfl rfl ?_
    refine J.gyes (y_move rfl rfl) rfl rfl rfl rfl rfl rfl ?_
    refine J.gyes (y_nilp rfl rfl) rfl rfl rfl rfl rfl rfl ?_
    refine J.gyes (y_fb rfl Tb.fo57_1 rfl) rfl rfl rfl rfl rfl rfl ?_
    refine J.gyes (y_load1 rfl Tb.ag3 rfl (fun w hs => cell_box (hF w hs.fact).1 rfl)) rfl rfl rfl rfl rfl rfl ?_
    refine J.gyes (y_gt rfl rfl rfl) rfl rfl rfl rfl rfl rfl ?_
    refine J.yl (y_pick rfl rfl (fun h => by cases h) (fun _ => rfl)) rfl rfl rfl ?_
    refine J.yl (y_assign rfl rfl) rfl rfl rfl ?_
    refine J.nil ?_
    refine JQ.next hK4 ?_
    refine JC.condp rfl (fun h2 => ?_) (fun h2 => ?_)
    · refine JC.seq fun K6 hK6 => ?_
      refine JC.region ?_
      refine J.yl (y_assign rfl rfl) rfl rfl rfl ?_
      refine J.nil ?_
      refine JQ.next hK6 ?_
      refine JC.ret ?_
      refine JQ.block_ret (JQ.then_ret ?_)
      exact ret1 rfl (r_tmp rfl) fun w hs => by rw [show wthE n z = 82 from if_pos (.inr h2)]; exact Post.pure hs
    · refine JC.skip ?_
      refine JQ.block_normal (JQ.next hK2 ?_)
      refine JC.seq fun K7 hK7 => ?_
      refine JC.region ?_
      refine J.yl (y_assign rfl rfl) rfl rfl rfl ?_
      refine J.nil ?_
      refine JQ.next hK7 ?_
      refine JC.ret ?_
      exact ret1 rfl (r_tmp rfl) fun w hs => by rw [show wthE n z = 0 from if_neg (by omega)]; exact Post.pure hs
theorem size_fn (T m n : Nat) (es : Array MapEntry) (clock : Nat) (hF : ∀ w, F w → Tt T m n es clock w) : PureFn Tryd.prog Gl 43 [.pointer (some ⟨T, 0, none⟩)] F (.int .i64 (n : Int)) := by
  refine FnSpec.intro Tryd.func43 rfl Tryd.ntmps43 rfl fun X M w => ?_
  refine JC.seq fun K1 hK1 => ?_
  refine JC.region ?_
  refine J.yl (y_assign rfl rfl) rfl rfl rfl ?_
  refine J.nil ?_
  refine JQ.next hK1 ?_
  refine JC.seq fun K2 hK2 => ?_
  refine JC.seq fun K3 hK3 => ?_
  refine JC.region ?_
  refine J.yl (y_move rfl rfl) rfl rfl rfl ?_
  refine J.callv rfl rfl rfl rfl Tb.cl115 rfl (none_fn T m n es clock (fun w h => hF w h.1)) ?_
  refine J.nil ?_
  refine JQ.next hK3 ?_
  refine JC.no rfl ?_
  refine JC.skip ?_
  refine JQ.next hK2 ?_
  refine JC.seq fun K4 hK4 => ?_
  refine JC.region ?_
  refine J.yl (y_move rfl rfl) rfl rfl rfl ?_
  refine J.yl (y_nilp rfl rfl) rfl rfl rfl ?_
  refine J.yl (y_fb rfl Tb.fo57_1 rfl) rfl rfl rfl ?_
  refine J.yl (y_load1 rfl Tb.ag3 rfl (fun w hs => cell_box (hF w hs.fact).1 rfl)) rfl rfl rfl ?_
  refine J.yl (y_assign rfl rfl) rfl rfl rfl ?_
  refine J.nil ?_
  refine JQ.next hK4 ?_
  refine JC.ret ?_
  exact ret1 rfl (r_tmp rfl) fun w hs => Post.pure hs
theorem tnode_fn (T m n : Nat) (es : Array MapEntry) (clock : Nat) (f : Int → Int → Option H) (hM : Mp es f) (a b : Int) (ha : in64 a) (hb : in64 b) (hF : ∀ w, F w → Tt T m n es clock w) : PureFn Tryd.prog Gl 33 [.pointer (some ⟨T, 0, none⟩), .int .i64 a, .int .i64 b] F (.tuple #[hv ((f a b).getD H.zero), .bool (f a b).isSome]) := by
  refine FnSpec.intro Tryd.func33 rfl Tryd.ntmps33 rfl fun X M w => ?_
  refine JC.seq fun K1 hK1 => ?_
  refine JC.region ?_
  refine J.alloc rfl rfl rfl rfl Tb.zz30 rfl fun g6 => ?_
  refine J.yl (y_assign rfl rfl) rfl rfl rfl ?_
  refine J.nil ?_
  refine JQ.next hK1 ?_
  refine JC.seq fun K2 hK2 => ?_
  refine JC.seq fun K3 hK3 => ?_
  refine JC.region ?_
  refine J.yl (y_move rfl rfl) rfl rfl rfl ?_
  refine J.callv rfl rfl rfl rfl Tb.cl115 rfl (none_fn T m n es clock (fun w h => hF w h.1)) ?_
  refine J.nil ?_
  refine JQ.next hK3 ?_
  refine JC.no rfl ?_
  refine JC.skip ?_
  refine JQ.next hK2 ?_
  refine JC.seq fun K4 hK4 => ?_
  refine JC.region ?_
  refine J.yl (y_move rfl rfl) rfl rfl rfl ?_
  refine J.yl (y_nilp rfl rfl) rfl rfl rfl ?_
  refine J.yl (y_fb rfl Tb.fo57_0 rfl) rfl rfl rfl ?_
  refine J.yl (y_load1 rfl Tb.ag55 rfl (fun w hs => cell_box (hF w hs.fact).1 rfl)) rfl rfl rfl ?_
  refine J.yl (y_move rfl rfl) rfl rfl rfl ?_
  refine J.yl (y_move rfl rfl) rfl rfl rfl ?_
  refine J.yl (y_buildA (cs := [.int .i64 a, .int .i64 b]) rfl Tryd.underlying38 Tb.zz38 Tb.sz3 rfl (fillK2 a b)) rfl rfl rfl ?_
  refine J.yl (y_look2 (a := a) (b := b) mkKey rfl Tryd.underlying55 Tb.zz30 rfl rfl ha hb hM (fun w hs => (hF w hs.fact).2)) rfl rfl rfl ?_
  refine J.yl (y_move rfl rfl) rfl rfl rfl ?_
  refine J.yl (y_extract rfl rfl rfl) rfl rfl rfl ?_
  refine J.yl (y_extract rfl rfl rfl) rfl rfl rfl ?_
  refine J.alloc rfl rfl rfl rfl Tb.zz30 rfl fun g8 => ?_
  refine J.storeW 0 rfl rfl rfl rfl rfl rfl rfl Tb.sz30 (hcl _) (hcl _) (hc1 _) ?_
  refine J.yl (y_assign rfl rfl) rfl rfl rfl ?_
  refine J.nil ?_
  refine JQ.next hK4 ?_
  refine JC.seq fun K5 hK5 => ?_
  refine JC.region ?_
  refine J.yl (y_lbW 0 rfl Tb.ag30 Tb.sz30 (hcl _) rfl rfl) rfl rfl rfl ?_
  refine J.yl (y_move rfl rfl) rfl rfl rfl ?_
  refine J.storeW 1 rfl rfl rfl rfl rfl rfl rfl Tb.sz30 (hcl _) (hcl _) (hc1 _) ?_
  refine J.yl (y_assign rfl rfl) rfl rfl rfl ?_
  refine J.nil ?_
  refine JQ.next hK5 ?_
  refine JC.ret ?_
  exact ret2 rfl (r_cellA 1 rfl rfl Tb.ag30 (by rw [hcl]; exact Tb.sz30)) (r_tmp rfl) fun w hs => Post.pure hs
end Go.Proofs.YtjkfeonbioccmaaDoor
