/- TilesNone: tiles that are none have nothing, and take nothing; the law returns true, and its arguments stay as they were. Condition: the two tables of SHA-256 hold what the program's text lays in them; the card ties them to that text. -/
import Derived.Test.YtjkfeonbioccmaaDoorTm
import Derived.Test.YtjkfeonbioccmaaDoorSxTwo
import Derived.Test.YtjkfeonbioccmaaDoorLh
import Derived.Test.YtjkfeonbioccmaaDoorTie
import Derived.SevenTiedAt
namespace Go.Proofs.YtjkfeonbioccmaaDoor
open Go Go.Sx Go.RowKit Go.ChangeShapes Go.WideShapes Go.ChangeAt
set_option linter.unusedVariables false
set_option linter.unusedSimpArgs false
set_option maxRecDepth 100000
set_option maxHeartbeats 4000000
theorem TilesNone_lifted (os : Os) (started : os.Started) (H' : Type) (enc : TypeId × Value → H') :
    ReturnsInHanded {} Tryd.checked os 8 .any (fun w args => (Rows.tilesNoneSpec.pre enc Tryd.prog Tryd.f8 [] false w args ∧ laidMetH Tryd.prog laidS w) ∧ sizedMet enc Tryd.prog Tryd.f8 (OpenSpec.ofChange Rows.tilesNoneSpec) false w args)
      (Rows.tilesNoneSpec.post enc Tryd.prog Tryd.f8 false true false false) := by
  refine returnsInHanded_of_change_and (C := Tryd.checked) (X := fun w _ => laidMetH Tryd.prog laidS w) (fun _ _ _ hh h => h.of_heap hh) own started (by kernel_rfl) Tryd.func8
    (ChangeSpec.witness_shaped (enc := enc) (C := Tryd.checked) (os := os) (X := fun w _ => laidMetH Tryd.prog laidS w) false (World.laidAll Tryd.prog os laidS) #[.agg (Array.replicate 32 (.int .u8 0)), .agg #[.int .i64 0, .int .i64 0]] 8 (World.laidAll_os _ _ _)
      (World.shaped_of_ZipB (by kernel_rfl) (by kernel_rfl)) (by kernel_rfl) (by kernel_rfl) (by kernel_rfl)
      (by rw [MakeChecks.laidMetH_plain _ _ _ (by kernel_rfl)]; exact laidMet_laidAll _ (by kernel_rfl) (by kernel_rfl))) ?_
  intro W base args ds gs before hval0 hW _ _ hL _
  have hval : ∀ (j : Nat) t v, Tryd.f8.params[j]? = some t → args[j]? = some v → Value.okWide Tryd.prog W .any base t v := hval0
  have hW' := hW
  obtain ⟨p, q, hA0, hV, rfl, hfz, hnd⟩ := hW
  have hA : DataW.TrodAll enc Tryd.prog W 0 (fun _ => true) true Tryd.f8.params.toList args.toList ds p := hA0
  rw [Tryd.params8] at hA hval
  obtain ⟨v0, v1, d0, d1, p0, p1, rfl, rfl, rfl, h0, h1⟩ := trodAll_two hA
  obtain ⟨rfl, rfl⟩ := trodVars_none hV
  obtain ⟨a0, rfl⟩ := open_hash Tryd.underlying30 Tryd.underlying5 (by kernel_rfl) (by kernel_rfl) (hval 0 30 v0 rfl rfl) h0
  obtain ⟨x1, y1, hx1, hy1, rfl⟩ := open_two Tryd.underlying38 Tryd.underlying3 (by kernel_rfl) (by kernel_rfl) (hval 1 38 v1 rfl rfl) h1
  refine ((law_TilesNone (F := fun _ => True) a0 x1 y1) 0 _ _ W (St.begin (fun w' hf => Gs_far (Gs_of_laid hL) hf) ((fun w' hf => trivial)))).mono fun e W' ⟨_, _, he, hfr, _⟩ => ?_
  exact ⟨_, he, law_post (by kernel_rfl) rfl (by kernel_rfl) Tryd.underlying4 hW' rfl hfr⟩
theorem TilesNone_closed : joinedFacts Tryd.prog 8 Tryd.f8 Rows.tilesNoneSpec Rows.tilesNoneRow = true := by
  unfold joinedFacts
  refine band (band (band (band (band (band (band (band (band (band (band (band (band (band (band (band (band (band (band (band (band (band (band (band (band (band (band (band (band (band (band ?_ ?_) ?_) ?_) ?_) ?_) ?_) ?_) ?_) ?_) ?_) ?_) ?_) ?_) ?_) ?_) ?_) ?_) ?_) ?_) ?_) ?_) ?_) ?_) ?_) ?_) ?_) ?_) ?_) ?_) ?_) ?_
  · as_aux_lemma => kernel_rfl
  · exact laidOut
  · exact fRowed
  · as_aux_lemma => kernel_rfl
  · as_aux_lemma => kernel_rfl
  · as_aux_lemma => kernel_rfl
  · as_aux_lemma => kernel_rfl
  · as_aux_lemma => kernel_rfl
  · as_aux_lemma => kernel_rfl
  · as_aux_lemma => kernel_rfl
  · as_aux_lemma => kernel_rfl
  · as_aux_lemma => kernel_rfl
  · as_aux_lemma => kernel_rfl
  · as_aux_lemma => kernel_rfl
  · as_aux_lemma => kernel_rfl
  · as_aux_lemma => kernel_rfl
  · as_aux_lemma => kernel_rfl
  · as_aux_lemma => kernel_rfl
  · as_aux_lemma => kernel_rfl
  · as_aux_lemma => kernel_rfl
  · as_aux_lemma => kernel_rfl
  · as_aux_lemma => kernel_rfl
  · as_aux_lemma => kernel_rfl
  · as_aux_lemma => kernel_rfl
  · exact fHeard
  · exact fMay
  · rw [fFinal]; rfl
  · rw [fMake]; rfl
  · as_aux_lemma => kernel_rfl
  · as_aux_lemma => kernel_rfl
  · as_aux_lemma => kernel_rfl
  · as_aux_lemma => kernel_rfl
theorem TilesNone_row : Rows.TilesNoneSaid :=
  OpenClaim.holds_of_wide 8 Tryd.f8 rfl rfl rfl rfl rfl rfl rfl ⟨rfl, rfl, rfl, rfl, rfl⟩ rfl rfl rfl rfl rfl (by kernel_rfl) Tryd.func8 TilesNone_closed
    (of_decide_eq_true (by kernel_rfl)) (by unfold Func.isWrapper; first | (rw [if_pos (by decide +kernel)]; kernel_rfl) | (rw [if_neg (by decide +kernel)]; exact ⟨rfl, rfl⟩))
    (fun os started H' enc _ => TilesNone_lifted os started H' enc)
theorem TilesNone_wf : Rows.tilesNoneRow.wfByText (OpenSpec.ofChange Rows.tilesNoneSpec) = true := by kernel_rfl
theorem TilesNone_goes : false = Rows.tilesNoneRow.goesBy Tryd.pinned.checked.prog := by kernel_rfl
theorem TilesNone_named : Tryd.pinned.checked.prog.funcNamed Rows.tilesNoneRow.func = some 8 := by kernel_rfl
theorem TilesNone_stands : ([30, 38].all fun u => !Tryd.prog.wantsStandIn u) = true := by kernel_rfl
theorem TilesNone_holds : Rows.TilesNoneCardSaid :=
  Claim7.holds_tied_plain_at .later [] [.data, .data] true (true, "05d9cb915d7dc385c0a18e33fb58cf319a034fde1f25559775d258e4dd70a77f") true TilesNone_row (fun _ h => by cases h) TilesNone_wf (fun _ h => by cases h) tilesNone_row_tie rfl ⟨rfl, rfl⟩ fMain rfl
    (fun f fn hf hfn => by
      obtain rfl : f = 8 := Option.some.inj (TilesNone_named.symm.trans hf) |>.symm
      obtain rfl : fn = Tryd.f8 := (Option.some.inj (Tryd.func8.symm.trans hfn)).symm
      exact ⟨fLooks, fun j t ht => by
        rw [Tryd.params8] at ht
        have hm : t ∈ [30, 38] := by simpa using Array.mem_of_getElem? ht
        exact (show Tryd.prog.wantsStandIn t = false by simpa using List.all_eq_true.1 TilesNone_stands t hm)⟩)
    TilesNone_goes
#print axioms TilesNone_holds
end Go.Proofs.YtjkfeonbioccmaaDoor
