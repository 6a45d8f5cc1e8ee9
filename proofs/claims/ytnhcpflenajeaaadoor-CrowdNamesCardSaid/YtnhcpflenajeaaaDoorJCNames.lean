/- CrowdNames: for every input (there is none) the law returns true: errors and limits have the document's numbers, and the chapter's examples hold. Conditions: those of the row (the two listed variables hold what the program's text lays, which the card ties). -/
import Derived.Test.YtnhcpflenajeaaaDoorJCalls
import Derived.Test.YtnhcpflenajeaaaDoorJGCrowdNames
import Derived.Test.YtnhcpflenajeaaaDoorJLaid
import Derived.Test.YtnhcpflenajeaaaDoorCards
import Derived.Test.YtnhcpflenajeaaaDoorTie
import Derived.SevenTiedAt
namespace Go.Proofs.YtnhcpflenajeaaaDoor
open Go.ChangeShapes Go.WideShapes Go.ChangeAt Go.RowKit Go.Proofs.YtnhcpflenajeaaaDoorW.PrintWords PCrowdMost
set_option linter.unusedVariables false
set_option linter.unusedSimpArgs false

theorem alive_true : geyseritelaw09_alive.f 10 = some true := rfl
theorem round0 : geyseritelaw09_CrowdNames.l0 15 true [0, 8, 52, 55] 4 0 [50, 5, 55] [⟨0, 1, 2, 10⟩, ⟨1, 2, 3, 8⟩, ⟨0, 2, 7, 4⟩] [⟨0, 0, 40⟩, ⟨3, 0, 20⟩] = geyseritelaw09_CrowdNames.l0 14 true [0, 8, 52, 55] 4 1 [50, 5, 55] [⟨0, 1, 2, 10⟩, ⟨1, 2, 3, 8⟩, ⟨0, 2, 7, 4⟩] [⟨0, 0, 40⟩, ⟨3, 0, 20⟩] := by
  rw [geyseritelaw09_CrowdNames.l0, if_pos (by decide), if_pos (by decide), if_pos (by decide)]
  simp only [Option.bind_some]
  rw [if_pos (by decide), show rd [4, 5, 9, 10] 0 = 4 from rfl, smp_most4]
  simp only [Option.bind_some, if_true]
  rw [if_pos (by decide)]
  rw [show wrap64 (0 + 1) = 1 by unfold wrap64; omega]
  exact congrArg (fun b => geyseritelaw09_CrowdNames.l0 14 b [0, 8, 52, 55] 4 1 [50, 5, 55] [⟨0, 1, 2, 10⟩, ⟨1, 2, 3, 8⟩, ⟨0, 2, 7, 4⟩] [⟨0, 0, 40⟩, ⟨3, 0, 20⟩]) (show ((0 : Int) == 0) = true from by decide)
theorem round1 : geyseritelaw09_CrowdNames.l0 14 true [0, 8, 52, 55] 4 1 [50, 5, 55] [⟨0, 1, 2, 10⟩, ⟨1, 2, 3, 8⟩, ⟨0, 2, 7, 4⟩] [⟨0, 0, 40⟩, ⟨3, 0, 20⟩] = geyseritelaw09_CrowdNames.l0 13 true [0, 8, 52, 55] 4 2 [50, 5, 55] [⟨0, 1, 2, 10⟩, ⟨1, 2, 3, 8⟩, ⟨0, 2, 7, 4⟩] [⟨0, 0, 40⟩, ⟨3, 0, 20⟩] := by
  rw [geyseritelaw09_CrowdNames.l0, if_pos (by decide), if_pos (by decide), if_pos (by decide)]
  simp only [Option.bind_some]
  rw [if_pos (by decide), show rd [4, 5, 9, 10] 1 = 5 from rfl, smp_most5]
  simp only [Option.bind_some, if_true]
  rw [if_pos (by decide)]
  rw [show wrap64 (1 + 1) = 2 by unfold wrap64; omega]
  exact congrArg (fun b => geyseritelaw09_CrowdNames.l0 13 b [0, 8, 52, 55] 4 2 [50, 5, 55] [⟨0, 1, 2, 10⟩, ⟨1, 2, 3, 8⟩, ⟨0, 2, 7, 4⟩] [⟨0, 0, 40⟩, ⟨3, 0, 20⟩]) (show ((0 : Int) == 0) = true from by decide)
theorem round2 : geyseritelaw09_CrowdNames.l0 13 true [0, 8, 52, 55] 4 2 [50, 5, 55] [⟨0, 1, 2, 10⟩, ⟨1, 2, 3, 8⟩, ⟨0, 2, 7, 4⟩] [⟨0, 0, 40⟩, ⟨3, 0, 20⟩] = geyseritelaw09_CrowdNames.l0 12 true [0, 8, 52, 55] 4 3 [50, 5, 55] [⟨0, 1, 2, 10⟩, ⟨1, 2, 3, 8⟩, ⟨0, 2, 7, 4⟩] [⟨0, 0, 40⟩, ⟨3, 0, 20⟩] := by
  rw [geyseritelaw09_CrowdNames.l0, if_pos (by decide), if_pos (by decide), if_pos (by decide)]
  simp only [Option.bind_some]
  rw [if_pos (by decide), show rd [4, 5, 9, 10] 2 = 9 from rfl, smp_most9]
  simp only [Option.bind_some, if_true]
  rw [if_pos (by decide)]
  rw [show wrap64 (2 + 1) = 3 by unfold wrap64; omega]
  exact congrArg (fun b => geyseritelaw09_CrowdNames.l0 12 b [0, 8, 52, 55] 4 3 [50, 5, 55] [⟨0, 1, 2, 10⟩, ⟨1, 2, 3, 8⟩, ⟨0, 2, 7, 4⟩] [⟨0, 0, 40⟩, ⟨3, 0, 20⟩]) (show ((0 : Int) == 0) = true from by decide)
theorem round3 : geyseritelaw09_CrowdNames.l0 12 true [0, 8, 52, 55] 4 3 [50, 5, 55] [⟨0, 1, 2, 10⟩, ⟨1, 2, 3, 8⟩, ⟨0, 2, 7, 4⟩] [⟨0, 0, 40⟩, ⟨3, 0, 20⟩] = geyseritelaw09_CrowdNames.l0 11 true [0, 8, 52, 55] 4 4 [50, 5, 55] [⟨0, 1, 2, 10⟩, ⟨1, 2, 3, 8⟩, ⟨0, 2, 7, 4⟩] [⟨0, 0, 40⟩, ⟨3, 0, 20⟩] := by
  rw [geyseritelaw09_CrowdNames.l0, if_pos (by decide), if_pos (by decide), if_pos (by decide)]
  simp only [Option.bind_some]
  rw [if_pos (by decide), show rd [4, 5, 9, 10] 3 = 10 from rfl, smp_most10]
  simp only [Option.bind_some, if_true]
  rw [if_pos (by decide)]
  rw [show wrap64 (3 + 1) = 4 by unfold wrap64; omega]
  exact congrArg (fun b => geyseritelaw09_CrowdNames.l0 11 b [0, 8, 52, 55] 4 4 [50, 5, 55] [⟨0, 1, 2, 10⟩, ⟨1, 2, 3, 8⟩, ⟨0, 2, 7, 4⟩] [⟨0, 0, 40⟩, ⟨3, 0, 20⟩]) (show ((0 : Int) == 0) = true from by decide)
theorem round4 : geyseritelaw09_CrowdNames.l0 11 true [0, 8, 52, 55] 4 4 [50, 5, 55] [⟨0, 1, 2, 10⟩, ⟨1, 2, 3, 8⟩, ⟨0, 2, 7, 4⟩] [⟨0, 0, 40⟩, ⟨3, 0, 20⟩] = some true := by
  rw [geyseritelaw09_CrowdNames.l0, if_neg (by decide)]
  unfold geyseritelaw09_small.f
  simp only [Option.bind_some, smp_soon8, smp_soon56, smp_see9, sml_most, alive_true, if_true]
  rfl
theorem names_true : geyseritelaw09_CrowdNames.f 15 = some true := by
  unfold geyseritelaw09_CrowdNames.f geyseritelaw09_sample.f
  simp only [Option.bind_some]
  have h := round0.trans (round1.trans (round2.trans (round3.trans round4)))
  exact h

set_option maxRecDepth 100000 in
theorem names_lifted (os : Os) (started : os.Started) (H : Type) (enc : TypeId × Value → H) :
    ReturnsInHanded {} Tryd.checked os 11 .any (fun w args => (Rows.crowdNamesSpec.pre enc Tryd.prog Tryd.f11 [] false w args ∧ laidMetH Tryd.prog laid2 w) ∧ sizedMet enc Tryd.prog Tryd.f11 (OpenSpec.ofChange Rows.crowdNamesSpec) false w args)
      (Rows.crowdNamesSpec.post enc Tryd.prog Tryd.f11 false true false false) := by
  refine returnsInHanded_of_change_and (C := Tryd.checked) (X := fun w _ => laidMetH Tryd.prog laid2 w) (fun _ _ _ hh h => h.of_heap hh) own started (by kernel_rfl) Tryd.func11
    (ChangeSpec.witness_shaped (enc := enc) (C := Tryd.checked) (os := os) (X := fun w _ => laidMetH Tryd.prog laid2 w) false (World.doorLaid Tryd.prog 400 os) #[] 8 rfl (World.shaped_of_RefB (by kernel_rfl) (by kernel_rfl)) (by kernel_rfl) (by kernel_rfl) (by kernel_rfl) (door_met os _)) ?_
  intro W base args ds gs before hval0 hW _ _ hL _
  have hval : ∀ (j : Nat) t v, Tryd.f11.params[j]? = some t → args[j]? = some v → Value.okWide Tryd.prog W .any base t v := hval0
  have hW' := hW
  obtain ⟨p, q, hA0, hV, rfl, hfz, hnd⟩ := hW
  have hA : DataW.TrodAll enc Tryd.prog W 0 (fun _ => true) true Tryd.f11.params.toList args.toList ds p := hA0
  rw [Tryd.params11] at hA hval
  obtain ⟨rfl, rfl, rfl⟩ := trodAll_none hA
  obtain ⟨rfl, rfl⟩ := trodVars_none hV
  have hG := of_laid hL
  clear hA0 hval0
  refine (geyseritelaw09_CrowdNames.calls 15 true W hG names_true).mono fun e W' ⟨he, bel⟩ => ?_
  subst he
  exact ⟨_, rfl, _, _, _, [], _, [], hW', trodAll_mk1 (shut_bool Tryd.underlying4 _), trodAll_mk0, rfl, bel.frame _, fun h => by cases h⟩
theorem names_holds : Rows.CrowdNamesSaid :=
  OpenClaim.holds_of_wide 11 Tryd.f11 rfl rfl rfl rfl rfl rfl rfl ⟨rfl, rfl, rfl, rfl, rfl⟩ rfl rfl rfl rfl rfl (by kernel_rfl) Tryd.func11 (by kernel_rfl)
    (of_decide_eq_true (by kernel_rfl)) (by unfold Func.isWrapper; first | (rw [if_pos (by decide +kernel)]; kernel_rfl) | (rw [if_neg (by decide +kernel)]; exact ⟨rfl, rfl⟩))
    (fun os started H enc _ => names_lifted os started H enc)
theorem names_card : Rows.CrowdNamesCardSaid :=
  Claim7.holds_tied_plain_at .later [] [.data, .data] true (true, "6562c37f1c0ae295c98359bfc1f9219f737ceba079cfba806077519868d9e0a2") true
    names_holds (fun _ h => by cases h) (by kernel_rfl) (fun _ h => by cases h) crowdNames_row_tie rfl ⟨rfl, rfl⟩ (by kernel_rfl) rfl
    (fun f fn hf hfn => by
      obtain rfl : f = 11 := Option.some.inj ((show Tryd.prog.funcNamed "geyserite/geyseritelaw09.CrowdNames" = some 11 by kernel_rfl).symm.trans hf) |>.symm
      obtain rfl : fn = Tryd.f11 := (Option.some.inj (Tryd.func11.symm.trans hfn)).symm
      exact ⟨by kernel_rfl, fun j t ht => by
        rw [Tryd.params11] at ht
        simp at ht⟩)
    (by kernel_rfl)
#print axioms names_card
end Go.Proofs.YtnhcpflenajeaaaDoor
