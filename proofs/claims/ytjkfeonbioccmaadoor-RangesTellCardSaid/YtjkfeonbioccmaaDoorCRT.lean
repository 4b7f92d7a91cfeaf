/- RangesTell: what is put behind a range, its root, and parts that are merged into it are the document's, or refused; the law returns true, and its arguments stay as they were. Condition: the two tables of SHA-256 hold what the program's text lays in them; the card ties them to that text. -/
import Derived.Test.YtjkfeonbioccmaaDoorRt
import Derived.Test.YtjkfeonbioccmaaDoorCRa
import Derived.Test.YtjkfeonbioccmaaDoorMg
import Derived.Test.YtjkfeonbioccmaaDoorLh
import Derived.Test.YtjkfeonbioccmaaDoorTie
import Derived.SevenTiedAt
namespace Go.Proofs.YtjkfeonbioccmaaDoor
open Go Go.Sx Go.RowKit Go.ChangeShapes Go.WideShapes Go.ChangeAt
set_option linter.unusedVariables false
set_option linter.unusedSimpArgs false
set_option maxRecDepth 100000
set_option maxHeartbeats 4000000
theorem RangesTell_lifted (os : Os) (started : os.Started) (H' : Type) (enc : TypeId × Value → H') :
    ReturnsInHanded {} Tryd.checked os 13 .any (fun w args => (Rows.rangesTellSpec.pre enc Tryd.prog Tryd.f13 [] false w args ∧ laidMetH Tryd.prog laidS w) ∧ sizedMet enc Tryd.prog Tryd.f13 (OpenSpec.ofChange Rows.rangesTellSpec) false w args)
      (Rows.rangesTellSpec.post enc Tryd.prog Tryd.f13 false true false false) := by
  refine returnsInHanded_of_change_and (C := Tryd.checked) (X := fun w _ => laidMetH Tryd.prog laidS w) (fun _ _ _ hh h => h.of_heap hh) own started (by kernel_rfl) Tryd.func13
    (ChangeSpec.witness_shaped (enc := enc) (C := Tryd.checked) (os := os) (X := fun w _ => laidMetH Tryd.prog laidS w) false (World.laidAll Tryd.prog os laidS) #[.agg #[.int .i64 0, .slice none 0 0], .slice none 0 0, .int .i64 0] 8 (World.laidAll_os _ _ _)
      (World.shaped_of_ZipB (by kernel_rfl) (by kernel_rfl)) (by kernel_rfl) (by kernel_rfl) (by kernel_rfl)
      (by rw [MakeChecks.laidMetH_plain _ _ _ (by kernel_rfl)]; exact laidMet_laidAll _ (by kernel_rfl) (by kernel_rfl))) ?_
  intro W base args ds gs before hval0 hW _ _ hL _
  have hval : ∀ (j : Nat) t v, Tryd.f13.params[j]? = some t → args[j]? = some v → Value.okWide Tryd.prog W .any base t v := hval0
  have hW' := hW
  obtain ⟨p, q, hA0, hV, rfl, hfz, hnd⟩ := hW
  have hA : DataW.TrodAll enc Tryd.prog W 0 (fun _ => true) true Tryd.f13.params.toList args.toList ds p := hA0
  rw [Tryd.params13] at hA hval
  obtain ⟨v0, v1, v2, d0, d1, d2, p0, p1, p2, rfl, rfl, rfl, h0, h1, h2⟩ := trodAll_three hA
  obtain ⟨rfl, rfl⟩ := trodVars_none hV
  obtain ⟨s0, A0, n0, k0, l0, rfl, hs0, hn0, hk0, hm0, hS0⟩ := open_range (hval 0 87 v0 rfl rfl) h0
  obtain ⟨A1, n1, k1, l1, rfl, hn1, hk1, hm1, hS1⟩ := open_hashes Tryd.underlying22 Tryd.underlying30 Tryd.underlying5 (by kernel_rfl) (by kernel_rfl) (hval 1 22 v1 rfl rfl) h1
  obtain ⟨m2, rfl, rfl, rfl, w2⟩ := open_int Tryd.underlying3 (hval 2 3 v2 rfl rfl) h2
  refine ((law_RangesTell (F := fun w => Sl w A0 (hcs l0) ∧ Sl w A1 (hcs l1)) s0 m2 l0.reverse l1 A0 A1 n0 k0 n1 k1 hs0 (open_i64 w2) (by rw [List.length_reverse]; exact hn0) hn1 hk1 (fun w h => by rw [List.reverse_reverse]; exact h.1) (fun w h => h.2)) 0 _ _ W (St.begin (fun w' hf => Gs_far (Gs_of_laid hL) hf) ((fun w' hf => ⟨hS0 w' hf, hS1 w' hf⟩)))).mono fun e W' ⟨_, _, he, hfr, _⟩ => ?_
  exact ⟨_, he, law_post (by kernel_rfl) rfl (by kernel_rfl) Tryd.underlying4 hW' rfl hfr⟩
theorem RangesTell_closed : joinedFacts Tryd.prog 13 Tryd.f13 Rows.rangesTellSpec Rows.rangesTellRow = true := by
  unfold joinedFacts
  refine band (band (band (band (band (band (band (band (band (band (band (band (band (band (band (band (band (band (band (band (band (band (band (band (band (band (band (band (band (band (band ?_ ?_) ?_) ?_) ?_) ?_) ?_) ?_) ?_) ?_) ?_) ?_) ?_) ?_) ?_) ?_) ?_) ?_) ?_) ?_) ?_) ?_) ?_) ?_) ?_) ?_) ?_) ?_) ?_) ?_) ?_) ?_
  · as_aux_lemma => kernel_rfl
  · exact laidOut
  · exact fRowed
  · as_aux_lemma => kernel_rfl
  · as_aux_lemma => kernel_rfl
  · as_aux_lemma => kernel_rfl
  · as_aux_lemma => kernel_rfl
  · as_aux_lemma => kernel_rfl
  · as_aux_lemma => kernel_rfl
  · as_aux_lemma => kernel_rfl
  · as_aux_lemma => kernel_rfl
  · as_aux_lemma => kernel_rfl
  · as_aux_lemma => kernel_rfl
  · as_aux_lemma => kernel_rfl
  · as_aux_lemma => kernel_rfl
  · as_aux_lemma => kernel_rfl
  · as_aux_lemma => kernel_rfl
  · as_aux_lemma => kernel_rfl
  · as_aux_lemma => kernel_rfl
  · as_aux_lemma => kernel_rfl
  · as_aux_lemma => kernel_rfl
  · as_aux_lemma => kernel_rfl
  · as_aux_lemma => kernel_rfl
  · as_aux_lemma => kernel_rfl
  · exact fHeard
  · exact fMay
  · rw [fFinal]; rfl
  · rw [fMake]; rfl
  · as_aux_lemma => kernel_rfl
  · as_aux_lemma => kernel_rfl
  · as_aux_lemma => kernel_rfl
  · as_aux_lemma => kernel_rfl
theorem RangesTell_row : Rows.RangesTellSaid :=
  OpenClaim.holds_of_wide 13 Tryd.f13 rfl rfl rfl rfl rfl rfl rfl ⟨rfl, rfl, rfl, rfl, rfl⟩ rfl rfl rfl rfl rfl (by kernel_rfl) Tryd.func13 RangesTell_closed
    (of_decide_eq_true (by kernel_rfl)) (by unfold Func.isWrapper; first | (rw [if_pos (by decide +kernel)]; kernel_rfl) | (rw [if_neg (by decide +kernel)]; exact ⟨rfl, rfl⟩))
    (fun os started H' enc _ => RangesTell_lifted os started H' enc)
theorem RangesTell_wf : Rows.rangesTellRow.wfByText (OpenSpec.ofChange Rows.rangesTellSpec) = true := by kernel_rfl
theorem RangesTell_goes : false = Rows.rangesTellRow.goesBy Tryd.pinned.checked.prog := by kernel_rfl
theorem RangesTell_named : Tryd.pinned.checked.prog.funcNamed Rows.rangesTellRow.func = some 13 := by kernel_rfl
theorem RangesTell_stands : ([87, 22, 3].all fun u => !Tryd.prog.wantsStandIn u) = true := by kernel_rfl
theorem RangesTell_holds : Rows.RangesTellCardSaid :=
  Claim7.holds_tied_plain_at .later [] [.data, .data] true (true, "05d9cb915d7dc385c0a18e33fb58cf319a034fde1f25559775d258e4dd70a77f") true RangesTell_row (fun _ h => by cases h) RangesTell_wf (fun _ h => by cases h) rangesTell_row_tie rfl ⟨rfl, rfl⟩ fMain rfl
    (fun f fn hf hfn => by
      obtain rfl : f = 13 := Option.some.inj (RangesTell_named.symm.trans hf) |>.symm
      obtain rfl : fn = Tryd.f13 := (Option.some.inj (Tryd.func13.symm.trans hfn)).symm
      exact ⟨fLooks, fun j t ht => by
        rw [Tryd.params13] at ht
        have hm : t ∈ [87, 22, 3] := by simpa using Array.mem_of_getElem? ht
        exact (show Tryd.prog.wantsStandIn t = false by simpa using List.all_eq_true.1 RangesTell_stands t hm)⟩)
    RangesTell_goes
#print axioms RangesTell_holds
end Go.Proofs.YtjkfeonbioccmaaDoor
