/- TilesFull: tiles take as many leaves as there may be, and no more; the law returns true, and its arguments stay as they were. Condition: the two tables of SHA-256 hold what the program's text lays in them; the card ties them to that text. -/
import Derived.Test.YtjkfeonbioccmaaDoorTl
import Derived.Test.YtjkfeonbioccmaaDoorSxTwo
import Derived.Test.YtjkfeonbioccmaaDoorLh
import Derived.Test.YtjkfeonbioccmaaDoorTie
import Derived.SevenTiedAt
namespace Go.Proofs.YtjkfeonbioccmaaDoor
open Go Go.Sx Go.RowKit Go.ChangeShapes Go.WideShapes Go.ChangeAt
set_option linter.unusedVariables false
set_option linter.unusedSimpArgs false
set_option maxRecDepth 100000
set_option maxHeartbeats 4000000
theorem TilesFull_lifted (os : Os) (started : os.Started) (H' : Type) (enc : TypeId × Value → H') :
    ReturnsInHanded {} Tryd.checked os 7 .any (fun w args => (Rows.tilesFullSpec.pre enc Tryd.prog Tryd.f7 [] false w args ∧ laidMetH Tryd.prog laidS w) ∧ sizedMet enc Tryd.prog Tryd.f7 (OpenSpec.ofChange Rows.tilesFullSpec) false w args)
      (Rows.tilesFullSpec.post enc Tryd.prog Tryd.f7 false true false false) := by
  refine returnsInHanded_of_change_and (C := Tryd.checked) (X := fun w _ => laidMetH Tryd.prog laidS w) (fun _ _ _ hh h => h.of_heap hh) own started (by kernel_rfl) Tryd.func7
    (ChangeSpec.witness_shaped (enc := enc) (C := Tryd.checked) (os := os) (X := fun w _ => laidMetH Tryd.prog laidS w) false (World.laidAll Tryd.prog os laidS) #[.agg (Array.replicate 32 (.int .u8 0)), .int .u8 0] 8 (World.laidAll_os _ _ _)
      (World.shaped_of_ZipB (by kernel_rfl) (by kernel_rfl)) (by kernel_rfl) (by kernel_rfl) (by kernel_rfl)
      (by rw [MakeChecks.laidMetH_plain _ _ _ (by kernel_rfl)]; exact laidMet_laidAll _ (by kernel_rfl) (by kernel_rfl))) ?_
  intro W base args ds gs before hval0 hW _ _ hL _
  have hval : ∀ (j : Nat) t v, Tryd.f7.params[j]? = some t → args[j]? = some v → Value.okWide Tryd.prog W .any base t v := hval0
  have hW' := hW
  obtain ⟨p, q, hA0, hV, rfl, hfz, hnd⟩ := hW
  have hA : DataW.TrodAll enc Tryd.prog W 0 (fun _ => true) true Tryd.f7.params.toList args.toList ds p := hA0
  rw [Tryd.params7] at hA hval
  obtain ⟨v0, v1, d0, d1, p0, p1, rfl, rfl, rfl, h0, h1⟩ := trodAll_two hA
  obtain ⟨rfl, rfl⟩ := trodVars_none hV
  obtain ⟨a0, rfl⟩ := open_hash Tryd.underlying30 Tryd.underlying5 (by kernel_rfl) (by kernel_rfl) (hval 0 30 v0 rfl rfl) h0
  obtain ⟨m1, rfl, rfl, rfl, w1⟩ := open_int Tryd.underlying5 (hval 1 5 v1 rfl rfl) h1
  obtain ⟨b1, rfl⟩ := open_u8 w1
  refine ((law_TilesFull (F := fun _ => True) a0 b1) 0 _ _ W (St.begin (fun w' hf => Gs_far (Gs_of_laid hL) hf) ((fun w' hf => trivial)))).mono fun e W' ⟨_, _, he, hfr, _⟩ => ?_
  exact ⟨_, he, law_post (by kernel_rfl) rfl (by kernel_rfl) Tryd.underlying4 hW' rfl hfr⟩
theorem TilesFull_closed : joinedFacts Tryd.prog 7 Tryd.f7 Rows.tilesFullSpec Rows.tilesFullRow = true := by
  unfold joinedFacts
  refine band (band (band (band (band (band (band (band (band (band (band (band (band (band (band (band (band (band (band (band (band (band (band (band (band (band (band (band (band (band (band ?_ ?_) ?_) ?_) ?_) ?_) ?_) ?_) ?_) ?_) ?_) ?_) ?_) ?_) ?_) ?_) ?_) ?_) ?_) ?_) ?_) ?_) ?_) ?_) ?_) ?_) ?_) ?_) ?_) ?_) ?_) ?_
  · as_aux_lemma => kernel_rfl
  · exact laidOut
  · exact fRowed
  · as_aux_lemma => kernel_rfl
  · as_aux_lemma => kernel_rfl
  · as_aux_lemma => kernel_rfl
  · as_aux_lemma => kernel_rfl
  · as_aux_lemma => kernel_rfl
  · as_aux_lemma => kernel_rfl
  · as_aux_lemma => kernel_rfl
  · as_aux_lemma => kernel_rfl
  · as_aux_lemma => kernel_rfl
  · as_aux_lemma => kernel_rfl
  · as_aux_lemma => kernel_rfl
  · as_aux_lemma => kernel_rfl
  · as_aux_lemma => kernel_rfl
  · as_aux_lemma => kernel_rfl
  · as_aux_lemma => kernel_rfl
  · as_aux_lemma => kernel_rfl
  · as_aux_lemma => kernel_rfl
  · as_aux_lemma => kernel_rfl
  · as_aux_lemma => kernel_rfl
  · as_aux_lemma => kernel_rfl
  · as_aux_lemma => kernel_rfl
  · exact fHeard
  · exact fMay
  · rw [fFinal]; rfl
  · rw [fMake]; rfl
  · as_aux_lemma => kernel_rfl
  · as_aux_lemma => kernel_rfl
  · as_aux_lemma => kernel_rfl
  · as_aux_lemma => kernel_rfl
theorem TilesFull_row : Rows.TilesFullSaid :=
  OpenClaim.holds_of_wide 7 Tryd.f7 rfl rfl rfl rfl rfl rfl rfl ⟨rfl, rfl, rfl, rfl, rfl⟩ rfl rfl rfl rfl rfl (by kernel_rfl) Tryd.func7 TilesFull_closed
    (of_decide_eq_true (by kernel_rfl)) (by unfold Func.isWrapper; first | (rw [if_pos (by decide +kernel)]; kernel_rfl) | (rw [if_neg (by decide +kernel)]; exact ⟨rfl, rfl⟩))
    (fun os started H' enc _ => TilesFull_lifted os started H' enc)
theorem TilesFull_wf : Rows.tilesFullRow.wfByText (OpenSpec.ofChange Rows.tilesFullSpec) = true := by kernel_rfl
theorem TilesFull_goes : false = Rows.tilesFullRow.goesBy Tryd.pinned.checked.prog := by kernel_rfl
theorem TilesFull_named : Tryd.pinned.checked.prog.funcNamed Rows.tilesFullRow.func = some 7 := by kernel_rfl
theorem TilesFull_stands : ([30, 5].all fun u => !Tryd.prog.wantsStandIn u) = true := by kernel_rfl
theorem TilesFull_holds : Rows.TilesFullCardSaid :=
  Claim7.holds_tied_plain_at .later [] [.data, .data] true (true, "05d9cb915d7dc385c0a18e33fb58cf319a034fde1f25559775d258e4dd70a77f") true TilesFull_row (fun _ h => by cases h) TilesFull_wf (fun _ h => by cases h) tilesFull_row_tie rfl ⟨rfl, rfl⟩ fMain rfl
    (fun f fn hf hfn => by
      obtain rfl : f = 7 := Option.some.inj (TilesFull_named.symm.trans hf) |>.symm
      obtain rfl : fn = Tryd.f7 := (Option.some.inj (Tryd.func7.symm.trans hfn)).symm
      exact ⟨fLooks, fun j t ht => by
        rw [Tryd.params7] at ht
        have hm : t ∈ [30, 5] := by simpa using Array.mem_of_getElem? ht
        exact (show Tryd.prog.wantsStandIn t = false by simpa using List.all_eq_true.1 TilesFull_stands t hm)⟩)
    TilesFull_goes
#print axioms TilesFull_holds
end Go.Proofs.YtjkfeonbioccmaaDoor
