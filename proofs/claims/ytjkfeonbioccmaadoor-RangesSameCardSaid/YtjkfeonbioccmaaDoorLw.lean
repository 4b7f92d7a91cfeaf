/- Speculum proofs: what the listed variables hold when a call begins; how a statement's row is closed. -/
import Derived.Test.YtjkfeonbioccmaaDoorMh
import Derived.Test.YtjkfeonbioccmaaDoorMg
import Derived.Test.YtjkfeonbioccmaaDoorRows
import Derived.ProofKit
import Derived.OpenShut
import Derived.LaidMore
import Derived.Lay
import Derived.Stop.Joined
namespace Go.Proofs.YtjkfeonbioccmaaDoor
open Go Go.Sx Go.RowKit Go.ChangeShapes Go.WideShapes Go.ChangeAt
set_option linter.unusedVariables false
set_option linter.unusedSimpArgs false
set_option maxRecDepth 100000
theorem own : ownKnob Tryd.prog.godebug = none := by kernel_rfl
theorem laidOut : laidOutB Tryd.prog = true := by kernel_rfl
theorem gFirst : Tryd.prog.globalNamed "speculum/sha.first" = some 0 := by kernel_rfl
theorem gRounds : Tryd.prog.globalNamed "speculum/sha.rounds" = some 1 := by kernel_rfl
theorem tFirst : (Tryd.prog.globals[0]?).map (·.type) = some 204 := by kernel_rfl
theorem tRounds : (Tryd.prog.globals[1]?).map (·.type) = some 203 := by kernel_rfl
theorem cells_of_agg {H' : Type} {enc : TypeId × Value → H'} {P : Program} {w : World} {base fuel n : Nat} {sp : Nat → Bool} {held : Bool} {T U : TypeId} {k : IntKind} {cs : List Value} {ns : List Int} {p : List MemPlace} (hT : P.underlying T = some (.array n U)) (hU : P.underlying U = some (.int k)) (cU : P.cellsOf U = 1) (cT : P.cellsOf T = n)
    (h : DataW.trod enc P w base sp held fuel T cs = some (.agg (ns.map fun z => .lit (.int k z)), p)) : cs = ns.map (Value.int k) := by
  obtain ⟨xs, m, rfl, ex, hl, hn, hel⟩ := DataW.trod_array hT h
  rw [cT] at hl
  have e3 : ns.map (fun z => (DataW.lit (.int k z) : DataW H')) = xs.map (·.1) := DataW.agg.inj (Prod.mk.inj ex).1
  have hlen : ns.length = n := by
    have := congrArg List.length e3
    simpa [hn] using this
  apply List.ext_getElem?
  intro i
  rcases Nat.lt_or_ge i n with hi | hi
  · have h1 := hel i hi
    rw [cU, Nat.mul_one, List.getElem?_eq_getElem (by omega)] at h1
    obtain ⟨z, e1, e2, _⟩ := DataW.trod_int hU h1
    have e4 : (ns.map (fun z => (DataW.lit (.int k z) : DataW H')))[i]? = (xs.map (·.1))[i]? := by rw [e3]
    rw [List.getElem?_map, List.getElem?_map, List.getElem?_eq_getElem (by omega : i < xs.length), List.getElem?_eq_getElem (by omega : i < ns.length), e2] at e4
    simp only [Option.map_some, Option.some.injEq, DataW.lit.injEq, Lit.int.injEq, true_and] at e4
    have e5 : cs[i]? = ((cs.drop i).take 1)[0]? := by simp
    rw [e5, e1, List.getElem?_map, List.getElem?_eq_getElem (by omega : i < ns.length), e4]
    rfl
  · rw [List.getElem?_eq_none (by omega), List.getElem?_eq_none (by rw [List.length_map]; omega)]
abbrev laidS : List (String × DataW Unit) := [("speculum/sha.first", Rows.laid_speculum_sha_first), ("speculum/sha.rounds", Rows.laid_speculum_sha_rounds)]
def nFirst : List Int := [1779033703, 3144134277, 1013904242, 2773480762, 1359893119, 2600822924, 528734635, 1541459225]
def nRounds : List Int := kk.map fun x => (x.toNat : Int)
theorem Gs_of_laid {W : World} (h : laidMetH Tryd.prog laidS W) : Gs W := by
  rw [MakeChecks.laidMetH_plain _ _ _ (by kernel_rfl)] at h
  obtain ⟨ps, ⟨g0, t0, cs0, f0, p0, q0, hg0, ht0, hv0, hd0, ⟨g1, t1, cs1, f1, p1, q1, hg1, ht1, hv1, hd1, _, _⟩, _⟩, _, _⟩ := h
  obtain rfl := Option.some.inj (gFirst.symm.trans hg0)
  obtain rfl := Option.some.inj (gRounds.symm.trans hg1)
  obtain rfl := Option.some.inj (tFirst.symm.trans ht0)
  obtain rfl := Option.some.inj (tRounds.symm.trans ht1)
  have cU : Tryd.prog.cellsOf 202 = 1 := by kernel_rfl
  have c8 : Tryd.prog.cellsOf 204 = 8 := by kernel_rfl
  have c64 : Tryd.prog.cellsOf 203 = 64 := by kernel_rfl
  have e0 := cells_of_agg (ns := nFirst) Tryd.underlying204 Tryd.underlying202 cU c8 hd0
  have e1 := cells_of_agg (ns := nRounds) Tryd.underlying203 Tryd.underlying202 cU c64 hd1
  refine ⟨fun j u hj => ?_, fun j u hj => ?_⟩
  · have hc := World.var?_cell hg0 hv0 j
    rw [Addr.add_lit, Nat.zero_add, hc, ← Array.getElem?_toList, e0]
    exact hj
  · have hc := World.var?_cell hg1 hv1 j
    rw [Addr.add_lit, Nat.zero_add, hc, ← Array.getElem?_toList, e1]
    exact hj
theorem Gs_far {W W' : World} (h : Gs W) (hf : Fr No W W') : Gs W' := ⟨h.1.far hf, h.2.far hf⟩
theorem law_post {f : Func} {s : ChangeSpec} {H' : Type} {enc : TypeId × Value → H'} {W W' : World} {args : Array Value} {ds gs : List (DataW H')} {before : List MemPlace} {TB : TypeId} (hp : (f.params.toList.all fun t => Tryd.prog.readableRec t && decide (t < Tryd.prog.types.size)) = true) (hv : s.vars = []) (hrt : f.resultTypes = #[TB]) (hB : Tryd.prog.underlying TB = some .bool)
    (hW : DataW.Whole enc Tryd.prog f.params.toList s.vars false W args.toList ds gs before) (hfn : s.fn H' (ds ++ gs) = { results := [.lit (.bool true)], args := ds }) (hfr : Fr No W W') : s.post enc Tryd.prog f false true false false W args (.bool true) W' := by
  have hW' := hW
  have hlt := hW.lt
  obtain ⟨p, q, hA, hV, rfl, _, _⟩ := hW
  rw [hv] at hV
  obtain ⟨rfl, rfl⟩ := trodVars_none hV
  refine ⟨ds, [], p ++ [], [], p, [], hW', ?_, ?_, ?_, hfr.below.frame _, fun h => by cases h⟩
  · rw [hfn, hrt]
    exact trodAll_mk1 (shut_bool hB true)
  · rw [hfn]
    refine trodAll_below laidOut hfr.below _ (fun t ht => ?_) hA (fun x hx => ?_)
    · have := List.all_eq_true.1 hp t ht
      rw [Bool.and_eq_true] at this
      exact ⟨this.1, of_decide_eq_true this.2⟩
    · have := hlt x (List.mem_append_left _ hx)
      exact ⟨this, by simpa using this⟩
  · rw [hfn, hv]; rfl
end Go.Proofs.YtjkfeonbioccmaaDoor
