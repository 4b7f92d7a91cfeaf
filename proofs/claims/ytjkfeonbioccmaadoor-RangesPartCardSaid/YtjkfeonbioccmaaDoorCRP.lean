/- RangesPart: a range of the document's hashes parts at any place into the two ranges that its hashes make, or is refused; the law returns true, and its arguments stay as they were. Condition: the two tables of SHA-256 hold what the program's text lays in them; the card ties them to that text. -/
import Derived.Test.YtjkfeonbioccmaaDoorRm
import Derived.Test.YtjkfeonbioccmaaDoorCRa
import Derived.Test.YtjkfeonbioccmaaDoorMg
import Derived.Test.YtjkfeonbioccmaaDoorLh
import Derived.Test.YtjkfeonbioccmaaDoorTie
import Derived.SevenTiedAt
namespace Go.Proofs.YtjkfeonbioccmaaDoor
open Go Go.Sx Go.RowKit Go.ChangeShapes Go.WideShapes Go.ChangeAt
set_option linter.unusedVariables false
set_option linter.unusedSimpArgs false
set_option maxRecDepth 100000
set_option maxHeartbeats 4000000
theorem RangesPart_lifted (os : Os) (started : os.Started) (H' : Type) (enc : TypeId × Value → H') :
    ReturnsInHanded {} Tryd.checked os 11 .any (fun w args => (Rows.rangesPartSpec.pre enc Tryd.prog Tryd.f11 [] false w args ∧ laidMetH Tryd.prog laidS w) ∧ sizedMet enc Tryd.prog Tryd.f11 (OpenSpec.ofChange Rows.rangesPartSpec) false w args)
      (Rows.rangesPartSpec.post enc Tryd.prog Tryd.f11 false true false false) := by
  refine returnsInHanded_of_change_and (C := Tryd.checked) (X := fun w _ => laidMetH Tryd.prog laidS w) (fun _ _ _ hh h => h.of_heap hh) own started (by kernel_rfl) Tryd.func11
    (ChangeSpec.witness_shaped (enc := enc) (C := Tryd.checked) (os := os) (X := fun w _ => laidMetH Tryd.prog laidS w) false (World.laidAll Tryd.prog os laidS) #[.int .i64 0, .slice none 0 0, .agg #[.int .i64 0, .slice none 0 0]] 8 (World.laidAll_os _ _ _)
      (World.shaped_of_ZipB (by kernel_rfl) (by kernel_rfl)) (by kernel_rfl) (by kernel_rfl) (by kernel_rfl)
      (by rw [MakeChecks.laidMetH_plain _ _ _ (by kernel_rfl)]; exact laidMet_laidAll _ (by kernel_rfl) (by kernel_rfl))) ?_
  intro W base args ds gs before hval0 hW _ _ hL _
  have hval : ∀ (j : Nat) t v, Tryd.f11.params[j]? = some t → args[j]? = some v → Value.okWide Tryd.prog W .any base t v := hval0
  have hW' := hW
  obtain ⟨p, q, hA0, hV, rfl, hfz, hnd⟩ := hW
  have hA : DataW.TrodAll enc Tryd.prog W 0 (fun _ => true) true Tryd.f11.params.toList args.toList ds p := hA0
  rw [Tryd.params11] at hA hval
  obtain ⟨v0, v1, v2, d0, d1, d2, p0, p1, p2, rfl, rfl, rfl, h0, h1, h2⟩ := trodAll_three hA
  obtain ⟨rfl, rfl⟩ := trodVars_none hV
  obtain ⟨m0, rfl, rfl, rfl, w0⟩ := open_int Tryd.underlying3 (hval 0 3 v0 rfl rfl) h0
  obtain ⟨A1, n1, k1, l1, rfl, hn1, hk1, hm1, hS1⟩ := open_hashes Tryd.underlying22 Tryd.underlying30 Tryd.underlying5 (by kernel_rfl) (by kernel_rfl) (hval 1 22 v1 rfl rfl) h1
  obtain ⟨s2, A2, n2, k2, l2, rfl, hs2, hn2, hk2, hm2, hS2⟩ := open_range (hval 2 87 v2 rfl rfl) h2
  refine ((law_RangesPart (F := fun w => Sl w A1 (hcs l1) ∧ Sl w A2 (hcs l2)) m0 s2 l1 l2.reverse A2 A1 n2 k2 n1 k1 (open_i64 w0) hs2 (by rw [List.length_reverse]; exact hn2) hn1 hk1 (fun w h => by rw [List.reverse_reverse]; exact h.2) (fun w h => h.1)) 0 _ _ W (St.begin (fun w' hf => Gs_far (Gs_of_laid hL) hf) ((fun w' hf => ⟨hS1 w' hf, hS2 w' hf⟩)))).mono fun e W' ⟨_, _, he, hfr, _⟩ => ?_
  exact ⟨_, he, law_post (by kernel_rfl) rfl (by kernel_rfl) Tryd.underlying4 hW' rfl hfr⟩
theorem RangesPart_closed : joinedFacts Tryd.prog 11 Tryd.f11 Rows.rangesPartSpec Rows.rangesPartRow = true := by
  unfold joinedFacts
  refine band (band (band (band (band (band (band (band (band (band (band (band (band (band (band (band (band (band (band (band (band (band (band (band (band (band (band (band (band (band (band ?_ ?_) ?_) ?_) ?_) ?_) ?_) ?_) ?_) ?_) ?_) ?_) ?_) ?_) ?_) ?_) ?_) ?_) ?_) ?_) ?_) ?_) ?_) ?_) ?_) ?_) ?_) ?_) ?_) ?_) ?_) ?_
  · as_aux_lemma => kernel_rfl
  · exact laidOut
  · exact fRowed
  · as_aux_lemma => kernel_rfl
  · as_aux_lemma => kernel_rfl
  · as_aux_lemma => kernel_rfl
  · as_aux_lemma => kernel_rfl
  · as_aux_lemma => kernel_rfl
  · as_aux_lemma => kernel_rfl
  · as_aux_lemma => kernel_rfl
  · as_aux_lemma => kernel_rfl
  · as_aux_lemma => kernel_rfl
  · as_aux_lemma => kernel_rfl
  · as_aux_lemma => kernel_rfl
  · as_aux_lemma => kernel_rfl
  · as_aux_lemma => kernel_rfl
  · as_aux_lemma => kernel_rfl
  · as_aux_lemma => kernel_rfl
  · as_aux_lemma => kernel_rfl
  · as_aux_lemma => kernel_rfl
  · as_aux_lemma => kernel_rfl
  · as_aux_lemma => kernel_rfl
  · as_aux_lemma => kernel_rfl
  · as_aux_lemma => kernel_rfl
  · exact fHeard
  · exact fMay
  · rw [fFinal]; rfl
  · rw [fMake]; rfl
  · as_aux_lemma => kernel_rfl
  · as_aux_lemma => kernel_rfl
  · as_aux_lemma => kernel_rfl
  · as_aux_lemma => kernel_rfl
theorem RangesPart_row : Rows.RangesPartSaid :=
  OpenClaim.holds_of_wide 11 Tryd.f11 rfl rfl rfl rfl rfl rfl rfl ⟨rfl, rfl, rfl, rfl, rfl⟩ rfl rfl rfl rfl rfl (by kernel_rfl) Tryd.func11 RangesPart_closed
    (of_decide_eq_true (by kernel_rfl)) (by unfold Func.isWrapper; first | (rw [if_pos (by decide +kernel)]; kernel_rfl) | (rw [if_neg (by decide +kernel)]; exact ⟨rfl, rfl⟩))
    (fun os started H' enc _ => RangesPart_lifted os started H' enc)
theorem RangesPart_wf : Rows.rangesPartRow.wfByText (OpenSpec.ofChange Rows.rangesPartSpec) = true := by kernel_rfl
theorem RangesPart_goes : false = Rows.rangesPartRow.goesBy Tryd.pinned.checked.prog := by kernel_rfl
theorem RangesPart_named : Tryd.pinned.checked.prog.funcNamed Rows.rangesPartRow.func = some 11 := by kernel_rfl
theorem RangesPart_stands : ([3, 22, 87].all fun u => !Tryd.prog.wantsStandIn u) = true := by kernel_rfl
theorem RangesPart_holds : Rows.RangesPartCardSaid :=
  Claim7.holds_tied_plain_at .later [] [.data, .data] true (true, "05d9cb915d7dc385c0a18e33fb58cf319a034fde1f25559775d258e4dd70a77f") true RangesPart_row (fun _ h => by cases h) RangesPart_wf (fun _ h => by cases h) rangesPart_row_tie rfl ⟨rfl, rfl⟩ fMain rfl
    (fun f fn hf hfn => by
      obtain rfl : f = 11 := Option.some.inj (RangesPart_named.symm.trans hf) |>.symm
      obtain rfl : fn = Tryd.f11 := (Option.some.inj (Tryd.func11.symm.trans hfn)).symm
      exact ⟨fLooks, fun j t ht => by
        rw [Tryd.params11] at ht
        have hm : t ∈ [3, 22, 87] := by simpa using Array.mem_of_getElem? ht
        exact (show Tryd.prog.wantsStandIn t = false by simpa using List.all_eq_true.1 RangesPart_stands t hm)⟩)
    RangesPart_goes
#print axioms RangesPart_holds
end Go.Proofs.YtjkfeonbioccmaaDoor
