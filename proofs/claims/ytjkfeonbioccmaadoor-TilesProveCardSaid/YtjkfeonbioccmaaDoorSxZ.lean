/- Speculum proofs: scopes, labels; interfaces of maps; a map that is copied. -/
import Derived.Test.YtjkfeonbioccmaaDoorSxMap
import Derived.Scope
import Derived.Laws.Externs
namespace Go.Sx
open Go Go.RowKit
set_option linter.unusedVariables false
set_option linter.unusedSimpArgs false
section
variable {c : Cx} {ops : Array Oper} {Q : Exit → Act → World → Prop} {tm : Env} {C : List Chunk} {F : World → Prop} {x : Code}
theorem JC.scope (h : JC c x (Exit.noGoto Q) tm C F) : JC c (.scope x) Q tm C F := fun a w ha hs => wp_scope_straight (h a w ha hs)
theorem JC.label {l : Nat} (h : JQ c Q .normal tm C F) : JC c (.label l) Q tm C F := fun a w ha hs => wp_label (h a w ha hs)
theorem JQ.scope_normal (h : JQ c Q .normal tm C F) : JQ c (Exit.noGoto Q) .normal tm C F := h
theorem JQ.scope_ret (h : JQ c Q .ret tm C F) : JQ c (Exit.noGoto Q) .ret tm C F := h
theorem JQ.scope_exit {id : Nat} (h : JQ c Q (.exit id) tm C F) : JQ c (Exit.noGoto Q) (.exit id) tm C F := h
theorem PQ.scope (h : PQ Q) : PQ (Exit.noGoto Q) := h
end
section
variable {c : Cx} {ops : Array Oper} {Q : Exit → Act → World → Prop} {tm : Env} {C : List Chunk} {F : World → Prop} {l : List Oper} {o : Oper} {x : Operand} {t t' tx k e : TypeId} {d g clock : Nat} {es : Array MapEntry} {v : Value} {n : Int}
theorem y_mkI (ho : o.op = .makeInterface t x) (ht : c.P.underlying t = some (.map k e)) (hx : ev tm x = some v) : Yl c tm C F o (.iface t v) := fun ac w hag hs => by
  simp only [execOp, ho, hag.ev hx, Sem.run_bind, Instr.makeInterface, run_underlying ht]; rfl
theorem y_tyA (ho : o.op = .typeAssert x tx t false) (ht : c.P.underlying t = some (.map k e)) (hx : ev tm x = some (.iface t v)) : Yl c tm C F o v := fun ac w hag hs => by
  simp only [execOp, ho, hag.ev hx, Sem.run_bind, Instr.typeAssert, run_underlying ht]
  simp [Result.andThen]
theorem J.clone {f : FuncId} {fn : Func} {ats : Array TypeId} (ho : o.op = .call { callee := .value (.func f), args := #[x], argTypes := ats }) (hg : o.guard = none) (hd : o.dst = some d) (hn : Nat.ble (d + 1) c.n = true)
    (hf : c.P.funcs[f]? = some fn) (h1 : (fn.name == "runtime.NumGoroutine") = false) (h2 : fn.body.isNone = true) (h3 : Extern.findNext fn = none) (h4 : Extern.find fn = some Extern.MapsClone.clone) (hx : ev tm x = some (.iface t (.map (some g)))) (hr : ∀ w, St c w C F → w.heap[g]? = some (.map es clock))
    (h : ∀ g', J c ops Q l ((d, .iface t (.map (some g'))) :: tm) (.mp g' (.map es clock) :: C) F) : J c ops Q (o :: l) tm C F :=
  J.ef (S' := True) hg hd hn fun ac w hag hst => by
    have hb := hr w hst
    refine ⟨.iface t (.map (some w.heap.size)), w.alloc (.map es clock), ?_, _, _, hst.push (Fr.alloc _ _ _) (x := .mp w.heap.size (.map es clock)) (by show (w.heap.push _)[w.heap.size]? = _; simp) (fun k hk => by simp only [Chunk.own, Option.some.injEq] at hk; omega), h _⟩
    have e : (Extern.MapsClone.clone #[.iface t (.map (some g))]).run c.P w = .ok (.iface t (.map (some w.heap.size))) (w.alloc (.map es clock)) := by
      have e0 : Extern.MapsClone.clone #[.iface t (.map (some g))] = (getObj g >>= fun o => match o with
          | .map entries clock => (newObj (.map entries clock) >>= fun n => pure (.iface t (.map (some n))))
          | _ => stuck "maps.clone: a map expected") := rfl
      rw [e0]
      simp only [Sem.run_bind, MapKept.run_getObj_map hb, Result.andThen_ok]
      rfl
    have he : (#[x] : Array Operand).map ac.eval = #[.iface t (.map (some g))] := by simp [hag.ev hx]
    simp only [execOp, ho, resolve, he, Sem.run_bind]
    simp only [Act.eval, Deferred.ofValue, Sem.run_pure, Result.andThen_ok, invoke, Array.append_empty, Array.empty_append]
    rw [run_callFunc_extern hf h1 h2 h3 h4, e]
    rfl
end
end Go.Sx
