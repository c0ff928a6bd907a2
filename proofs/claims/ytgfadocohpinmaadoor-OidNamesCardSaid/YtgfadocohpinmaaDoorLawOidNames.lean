/- The row and the card of OidNames: the error and the limit have their numbers; the examples of the chapter; what may not be; the known ones. No condition. -/
import Derived.Test.YtgfadocohpinmaaDoorOaM
import Derived.Test.YtgfadocohpinmaaDoorOaK
import Derived.Test.YtgfadocohpinmaaDoorVmE
import Derived.Test.YtgfadocohpinmaaDoorRows
import Derived.Test.YtgfadocohpinmaaDoorTie
import Derived.Test.YtgfadocohpinmaaDoorCards
import Derived.WalkKit
import Derived.ProofKit
import Derived.OpenShut
import Derived.ShutString
import Derived.ChangeMaps5
import Derived.ChangeOld
import Derived.Below
import Derived.SizedLaws
import Derived.Lib.SmallJoins
import Derived.Carry
import Derived.LaidMore
import Derived.Lay
import Derived.SevenTiedAt
import Derived.Stop.Joined
set_option linter.unusedVariables false
set_option linter.unusedSimpArgs false
namespace Go.Proofs.YtgfadocohpinmaaDoor.oidNames
open Go.ChangeShapes Go.WideShapes Go.ChangeAt Go.RowKit Go.Joins
theorem laidOut : laidOutB Tryd.prog = true := by kernel_rfl
theorem own : ownKnob Tryd.prog.godebug = none := by kernel_rfl
open Go.Proofs.YtgfadocohpinmaaDoor.Vm Go.Proofs.YtgfadocohpinmaaDoor.Oa in
theorem glob (W : World) (h : laidMetH Tryd.prog Rows.oidNamesRow.laid W) : Glob E1 W (All W) := by
  rw [MakeChecks.laidMetH_plain _ _ _ (by kernel_rfl)] at h
  exact glob1_of h (by simp [Rows.oidNamesRow]) (by simp [Rows.oidNamesRow]) (by simp [Rows.oidNamesRow]) (by simp [Rows.oidNamesRow]) 
open Go.Proofs.YtgfadocohpinmaaDoor.Vm Go.Proofs.YtgfadocohpinmaaDoor.Oa in
theorem calls   (w : World) (hG : Glob E1 w (All w))  : Calls Tryd.prog 6 #[] w fun e w' => e = .returned (.bool true) ∧ Below w.heap.size w w' := by
  refine ((onames_ok w (All w) #[] [] (fun _ _ h => h) hG ?_ (by rw [onames_pre]; trivial)).calls fun _ _ h => by simp [Fw, Fence.wide] at h).mono ?_
  · simp [RVs]
  · rintro e w' ⟨v, rfl, hb, hv⟩
    simp only [onames_res, retD, RVD, RV] at hv
    subst hv
    exact ⟨rfl, hb⟩
set_option maxRecDepth 100000 in
theorem lifted (os : Os) (started : os.Started) (H : Type) (enc : TypeId × Value → H) :
    ReturnsInHanded {} Tryd.checked os 6 .any (fun w args => (Rows.oidNamesSpec.pre enc Tryd.prog Tryd.f6 Rows.oidNamesRow.domain false w args ∧ laidMetH Tryd.prog Rows.oidNamesRow.laid w) ∧ sizedMet enc Tryd.prog Tryd.f6 (OpenSpec.ofChange Rows.oidNamesSpec) false w args)
      (Rows.oidNamesSpec.post enc Tryd.prog Tryd.f6 false true false false) := by
  refine returnsInHanded_of_change_and (C := Tryd.checked) (X := fun w _ => laidMetH Tryd.prog Rows.oidNamesRow.laid w) (fun _ _ _ hh h => h.of_heap hh) own started (by kernel_rfl) Tryd.func6
    (ChangeSpec.witness_shaped (enc := enc) (C := Tryd.checked) (os := os) (X := fun w _ => laidMetH Tryd.prog Rows.oidNamesRow.laid w) false (World.laidAll Tryd.prog os Rows.oidNamesRow.laid) #[] 8 (World.laidAll_os _ _ _)
      (World.shaped_of_ZipB (by kernel_rfl) (by kernel_rfl)) (by kernel_rfl) (by kernel_rfl) (by kernel_rfl)
      (by rw [MakeChecks.laidMetH_plain _ _ _ (by kernel_rfl)]; exact laidMet_laidAll _ (by kernel_rfl) (by kernel_rfl))) ?_
  intro W base args ds gs before hval0 hW hcnd hsz0 hL _
  have hval : ∀ (j : Nat) t v, Tryd.f6.params[j]? = some t → args[j]? = some v → Value.okWide Tryd.prog W .any base t v := hval0
  have hW' := hW
  obtain ⟨p, q, hA0, hV, rfl, hfz, hnd⟩ := hW
  have hA : DataW.TrodAll enc Tryd.prog W 0 (fun _ => true) true Tryd.f6.params.toList args.toList ds p := hA0
  rw [Tryd.params6] at hA hval
  obtain ⟨hargs, rfl, rfl⟩ := trodAll_nil hA
  obtain rfl : args = #[] := by cases args; simp_all
  obtain ⟨rfl, rfl⟩ := trodVars_none hV
  refine (calls   W (glob W hL) ).mono fun e W' ⟨he, bel⟩ => ?_
  subst he
  exact ⟨_, rfl, _, _, _, [], _, [], hW', trodAll_mk1 (shut_bool Tryd.underlying4 _), trodAll_mk0, rfl, bel.frame _, fun h => by cases h⟩
theorem over : Rows.oidNamesRow.holds Tryd.pinned (OpenSpec.ofChange Rows.oidNamesSpec) :=
  OpenClaim.holds_of_wide 6 Tryd.f6 rfl rfl rfl rfl rfl rfl rfl ⟨rfl, rfl, rfl, rfl, rfl⟩ rfl rfl rfl rfl rfl (by kernel_rfl) Tryd.func6 (by kernel_rfl)
    (of_decide_eq_true (by kernel_rfl)) (by unfold Func.isWrapper; first | (rw [if_pos (by decide +kernel)]; kernel_rfl) | (rw [if_neg (by decide +kernel)]; exact ⟨rfl, rfl⟩))
    (fun os started H enc _ => lifted os started H enc)
theorem proved : Rows.OidNamesSaid := over
theorem card : Rows.OidNamesCardSaid :=
  Claim7.holds_tied_plain_at .later [] [.data, .data, .data, .data, .sentinel, .sentinel, .data, .pinned] true (true, "d52c236acdd925ac7c657b39964abf63ad4e5595c07a2899e3d5f3c9ce037382") true over (fun _ h => by cases h) (by kernel_rfl) (fun _ h => by cases h) oidNames_row_tie rfl ⟨rfl, rfl⟩ (by kernel_rfl) rfl
    (fun f fn hf hfn => by
      obtain rfl : f = 6 := Option.some.inj ((show Tryd.prog.funcNamed "postmark/postmarklaw14.OidNames" = some 6 by kernel_rfl).symm.trans hf) |>.symm
      obtain rfl : fn = Tryd.f6 := (Option.some.inj (Tryd.func6.symm.trans hfn)).symm
      exact ⟨by kernel_rfl, fun j t ht => by
        rw [Tryd.params6] at ht
        simp at ht⟩)
    (by kernel_rfl)
#print axioms card
end Go.Proofs.YtgfadocohpinmaaDoor.oidNames
namespace Go.Proofs.YtgfadocohpinmaaDoor
/-- The card, under a short name, for the claim. -/
theorem oidNames_holds : Rows.OidNamesCardSaid := oidNames.card
end Go.Proofs.YtgfadocohpinmaaDoor

