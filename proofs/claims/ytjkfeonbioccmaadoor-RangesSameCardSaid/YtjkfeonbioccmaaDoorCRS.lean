/- RangesSame: the range of leaves at once, one by one, in two parts, and merged from parts, are the same, and tell the root; the law returns true, and its arguments stay as they were. Condition: the two tables of SHA-256 hold what the program's text lays in them; the card ties them to that text. -/
import Derived.Test.YtjkfeonbioccmaaDoorRu
import Derived.Test.YtjkfeonbioccmaaDoorMg
import Derived.Test.YtjkfeonbioccmaaDoorLh
import Derived.Test.YtjkfeonbioccmaaDoorTie
import Derived.SevenTiedAt
namespace Go.Proofs.YtjkfeonbioccmaaDoor
open Go Go.Sx Go.RowKit Go.ChangeShapes Go.WideShapes Go.ChangeAt
set_option linter.unusedVariables false
set_option linter.unusedSimpArgs false
set_option maxRecDepth 100000
set_option maxHeartbeats 4000000
theorem RangesSame_lifted (os : Os) (started : os.Started) (H' : Type) (enc : TypeId × Value → H') :
    ReturnsInHanded {} Tryd.checked os 14 .any (fun w args => (Rows.rangesSameSpec.pre enc Tryd.prog Tryd.f14 [] false w args ∧ laidMetH Tryd.prog laidS w) ∧ sizedMet enc Tryd.prog Tryd.f14 (OpenSpec.ofChange Rows.rangesSameSpec) false w args)
      (Rows.rangesSameSpec.post enc Tryd.prog Tryd.f14 false true false false) := by
  refine returnsInHanded_of_change_and (C := Tryd.checked) (X := fun w _ => laidMetH Tryd.prog laidS w) (fun _ _ _ hh h => h.of_heap hh) own started (by kernel_rfl) Tryd.func14
    (ChangeSpec.witness_shaped (enc := enc) (C := Tryd.checked) (os := os) (X := fun w _ => laidMetH Tryd.prog laidS w) false (World.laidAll Tryd.prog os laidS) #[.slice none 0 0, .int .u8 0] 8 (World.laidAll_os _ _ _)
      (World.shaped_of_ZipB (by kernel_rfl) (by kernel_rfl)) (by kernel_rfl) (by kernel_rfl) (by kernel_rfl)
      (by rw [MakeChecks.laidMetH_plain _ _ _ (by kernel_rfl)]; exact laidMet_laidAll _ (by kernel_rfl) (by kernel_rfl))) ?_
  intro W base args ds gs before hval0 hW _ _ hL _
  have hval : ∀ (j : Nat) t v, Tryd.f14.params[j]? = some t → args[j]? = some v → Value.okWide Tryd.prog W .any base t v := hval0
  have hW' := hW
  obtain ⟨p, q, hA0, hV, rfl, hfz, hnd⟩ := hW
  have hA : DataW.TrodAll enc Tryd.prog W 0 (fun _ => true) true Tryd.f14.params.toList args.toList ds p := hA0
  rw [Tryd.params14] at hA hval
  obtain ⟨v0, v1, d0, d1, p0, p1, rfl, rfl, rfl, h0, h1⟩ := trodAll_two hA
  obtain ⟨rfl, rfl⟩ := trodVars_none hV
  obtain ⟨A0, n0, k0, l0, rfl, hn0, hk0, hm0, hS0⟩ := open_hashes Tryd.underlying22 Tryd.underlying30 Tryd.underlying5 (by kernel_rfl) (by kernel_rfl) (hval 0 22 v0 rfl rfl) h0
  obtain ⟨m1, rfl, rfl, rfl, w1⟩ := open_int Tryd.underlying5 (hval 1 5 v1 rfl rfl) h1
  obtain ⟨b1, rfl⟩ := open_u8 w1
  refine ((law_RangesSame (F := fun w => Sl w A0 (hcs l0)) b1 l0 A0 n0 k0 hn0 hk0 (fun w h => h)) 0 _ _ W (St.begin (fun w' hf => Gs_far (Gs_of_laid hL) hf) (hS0))).mono fun e W' ⟨_, _, he, hfr, _⟩ => ?_
  exact ⟨_, he, law_post (by kernel_rfl) rfl (by kernel_rfl) Tryd.underlying4 hW' rfl hfr⟩
theorem RangesSame_closed : joinedFacts Tryd.prog 14 Tryd.f14 Rows.rangesSameSpec Rows.rangesSameRow = true := by
  unfold joinedFacts
  refine band (band (band (band (band (band (band (band (band (band (band (band (band (band (band (band (band (band (band (band (band (band (band (band (band (band (band (band (band (band (band ?_ ?_) ?_) ?_) ?_) ?_) ?_) ?_) ?_) ?_) ?_) ?_) ?_) ?_) ?_) ?_) ?_) ?_) ?_) ?_) ?_) ?_) ?_) ?_) ?_) ?_) ?_) ?_) ?_) ?_) ?_) ?_
  · as_aux_lemma => kernel_rfl
  · exact laidOut
  · exact fRowed
  · as_aux_lemma => kernel_rfl
  · as_aux_lemma => kernel_rfl
  · as_aux_lemma => kernel_rfl
  · as_aux_lemma => kernel_rfl
  · as_aux_lemma => kernel_rfl
  · as_aux_lemma => kernel_rfl
  · as_aux_lemma => kernel_rfl
  · as_aux_lemma => kernel_rfl
  · as_aux_lemma => kernel_rfl
  · as_aux_lemma => kernel_rfl
  · as_aux_lemma => kernel_rfl
  · as_aux_lemma => kernel_rfl
  · as_aux_lemma => kernel_rfl
  · as_aux_lemma => kernel_rfl
  · as_aux_lemma => kernel_rfl
  · as_aux_lemma => kernel_rfl
  · as_aux_lemma => kernel_rfl
  · as_aux_lemma => kernel_rfl
  · as_aux_lemma => kernel_rfl
  · as_aux_lemma => kernel_rfl
  · as_aux_lemma => kernel_rfl
  · exact fHeard
  · exact fMay
  · rw [fFinal]; rfl
  · rw [fMake]; rfl
  · as_aux_lemma => kernel_rfl
  · as_aux_lemma => kernel_rfl
  · as_aux_lemma => kernel_rfl
  · as_aux_lemma => kernel_rfl
theorem RangesSame_row : Rows.RangesSameSaid :=
  OpenClaim.holds_of_wide 14 Tryd.f14 rfl rfl rfl rfl rfl rfl rfl ⟨rfl, rfl, rfl, rfl, rfl⟩ rfl rfl rfl rfl rfl (by kernel_rfl) Tryd.func14 RangesSame_closed
    (of_decide_eq_true (by kernel_rfl)) (by unfold Func.isWrapper; first | (rw [if_pos (by decide +kernel)]; kernel_rfl) | (rw [if_neg (by decide +kernel)]; exact ⟨rfl, rfl⟩))
    (fun os started H' enc _ => RangesSame_lifted os started H' enc)
theorem RangesSame_wf : Rows.rangesSameRow.wfByText (OpenSpec.ofChange Rows.rangesSameSpec) = true := by kernel_rfl
theorem RangesSame_goes : false = Rows.rangesSameRow.goesBy Tryd.pinned.checked.prog := by kernel_rfl
theorem RangesSame_named : Tryd.pinned.checked.prog.funcNamed Rows.rangesSameRow.func = some 14 := by kernel_rfl
theorem RangesSame_stands : ([22, 5].all fun u => !Tryd.prog.wantsStandIn u) = true := by kernel_rfl
theorem RangesSame_holds : Rows.RangesSameCardSaid :=
  Claim7.holds_tied_plain_at .later [] [.data, .data] true (true, "05d9cb915d7dc385c0a18e33fb58cf319a034fde1f25559775d258e4dd70a77f") true RangesSame_row (fun _ h => by cases h) RangesSame_wf (fun _ h => by cases h) rangesSame_row_tie rfl ⟨rfl, rfl⟩ fMain rfl
    (fun f fn hf hfn => by
      obtain rfl : f = 14 := Option.some.inj (RangesSame_named.symm.trans hf) |>.symm
      obtain rfl : fn = Tryd.f14 := (Option.some.inj (Tryd.func14.symm.trans hfn)).symm
      exact ⟨fLooks, fun j t ht => by
        rw [Tryd.params14] at ht
        have hm : t ∈ [22, 5] := by simpa using Array.mem_of_getElem? ht
        exact (show Tryd.prog.wantsStandIn t = false by simpa using List.all_eq_true.1 RangesSame_stands t hm)⟩)
    RangesSame_goes
#print axioms RangesSame_holds
end Go.Proofs.YtjkfeonbioccmaaDoor
