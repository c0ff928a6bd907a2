/- The row and the card of HourRises: of two times of whole seconds the less one's general text is less; a general text of a day's beginning is its date's. No condition. -/
import Derived.Test.YtfbodageccednaaDoorOaN
import Derived.Test.YtfbodageccednaaDoorOaM
import Derived.Test.YtfbodageccednaaDoorVmE
import Derived.Test.YtfbodageccednaaDoorRows
import Derived.Test.YtfbodageccednaaDoorTie
import Derived.Test.YtfbodageccednaaDoorCards
import Derived.WalkKit
import Derived.ProofKit
import Derived.OpenShut
import Derived.ShutString
import Derived.ChangeMaps5
import Derived.ChangeOld
import Derived.Below
import Derived.SizedLaws
import Derived.Lib.SmallJoins
import Derived.Carry
import Derived.LaidMore
import Derived.Lay
import Derived.SevenTiedAt
import Derived.Stop.Joined
set_option linter.unusedVariables false
set_option linter.unusedSimpArgs false
namespace Go.Proofs.YtfbodageccednaaDoor.hourRises
open Go.ChangeShapes Go.WideShapes Go.ChangeAt Go.RowKit Go.Joins
theorem laidOut : laidOutB Tryd.prog = true := by kernel_rfl
theorem own : ownKnob Tryd.prog.godebug = none := by kernel_rfl
open Go.Proofs.YtfbodageccednaaDoor.Vm Go.Proofs.YtfbodageccednaaDoor.Oa in
theorem glob (W : World) (h : laidMetH Tryd.prog Rows.hourRisesRow.laid W) : Glob E W (All W) := by
  rw [MakeChecks.laidMetH_plain _ _ _ (by kernel_rfl)] at h
  exact glob_of h (by simp [Rows.hourRisesRow]) (by simp [Rows.hourRisesRow]) (by simp [Rows.hourRisesRow]) 
open Go.Proofs.YtfbodageccednaaDoor.Vm Go.Proofs.YtfbodageccednaaDoor.Oa in
theorem calls (l0 : Int) (l1 : Int) (w : World) (hG : Glob E w (All w)) (hn : 0 ≤ l0 ∧ 0 ≤ l1) : Calls Tryd.prog 3 #[.int .u64 l0, .int .u64 l1] w fun e w' => e = .returned (.bool true) ∧ Below w.heap.size w w' := by
  refine ((rises_ok w (All w) #[.int .u64 l0, .int .u64 l1] [.int .u64 l0, .int .u64 l1] (fun _ _ h => h) hG ?_ (by rw [rises_pre]; exact hn)).calls fun _ _ h => by simp [Fw, Fence.wide] at h).mono ?_
  · simp [RVs, RV]
  · rintro e w' ⟨v, rfl, hb, hv⟩
    simp only [rises_res, retD, RVD, RV] at hv
    subst hv
    exact ⟨rfl, hb⟩
set_option maxRecDepth 100000 in
theorem lifted (os : Os) (started : os.Started) (H : Type) (enc : TypeId × Value → H) :
    ReturnsInHanded {} Tryd.checked os 3 .any (fun w args => (Rows.hourRisesSpec.pre enc Tryd.prog Tryd.f3 Rows.hourRisesRow.domain false w args ∧ laidMetH Tryd.prog Rows.hourRisesRow.laid w) ∧ sizedMet enc Tryd.prog Tryd.f3 (OpenSpec.ofChange Rows.hourRisesSpec) false w args)
      (Rows.hourRisesSpec.post enc Tryd.prog Tryd.f3 false true false false) := by
  refine returnsInHanded_of_change_and (C := Tryd.checked) (X := fun w _ => laidMetH Tryd.prog Rows.hourRisesRow.laid w) (fun _ _ _ hh h => h.of_heap hh) own started (by kernel_rfl) Tryd.func3
    (ChangeSpec.witness_shaped (enc := enc) (C := Tryd.checked) (os := os) (X := fun w _ => laidMetH Tryd.prog Rows.hourRisesRow.laid w) false (World.laidAll Tryd.prog os Rows.hourRisesRow.laid) #[.int .u64 0, .int .u64 0] 8 (World.laidAll_os _ _ _)
      (World.shaped_of_ZipB (by kernel_rfl) (by kernel_rfl)) (by kernel_rfl) (by kernel_rfl) (by kernel_rfl)
      (by rw [MakeChecks.laidMetH_plain _ _ _ (by kernel_rfl)]; exact laidMet_laidAll _ (by kernel_rfl) (by kernel_rfl))) ?_
  intro W base args ds gs before hval0 hW hcnd hsz0 hL _
  have hval : ∀ (j : Nat) t v, Tryd.f3.params[j]? = some t → args[j]? = some v → Value.okWide Tryd.prog W .any base t v := hval0
  have hW' := hW
  obtain ⟨p, q, hA0, hV, rfl, hfz, hnd⟩ := hW
  have hA : DataW.TrodAll enc Tryd.prog W 0 (fun _ => true) true Tryd.f3.params.toList args.toList ds p := hA0
  rw [Tryd.params3] at hA hval
  obtain ⟨v0, vs0, d0, ds0, p0, q0, hargs, rfl, rfl, h0, r0⟩ := trodAll_cons hA
  obtain ⟨v1, vs1, d1, ds1, p1, q1, rfl, rfl, rfl, h1, r1⟩ := trodAll_cons r0
  obtain ⟨rfl, rfl, rfl⟩ := trodAll_nil r1
  obtain rfl : args = #[v0, v1] := by cases args; simp_all
  obtain ⟨rfl, rfl⟩ := trodVars_none hV
  have lt0 : ∀ x ∈ p0, x.block < W.heap.size := by obtain ⟨m, hm⟩ := h0; exact DataW.trod_lt m _ _ _ hm
  have lt1 : ∀ x ∈ p1, x.block < W.heap.size := by obtain ⟨m, hm⟩ := h1; exact DataW.trod_lt m _ _ _ hm
  obtain ⟨l0, rfl, rfl, rfl, w0⟩ := open_int Tryd.underlying22 (hval 0 22 v0 rfl rfl) h0
  obtain ⟨l1, rfl, rfl, rfl, w1⟩ := open_int Tryd.underlying22 (hval 1 22 v1 rfl rfl) h1
  have hz : 0 ≤ l0 ∧ 0 ≤ l1 := by
    simp [Lit.wf, IntKind.max, IntKind.min, IntKind.bits, IntKind.signed] at w0 w1; omega
  refine (calls l0 l1 W (glob W hL) hz).mono fun e W' ⟨he, bel⟩ => ?_
  subst he
  exact ⟨_, rfl, _, _, _, [], _, [], hW', trodAll_mk1 (shut_bool Tryd.underlying4 _), (trodAll_cons_mk (Below.trod laidOut (by kernel_rfl) (of_decide_eq_true (by kernel_rfl)) h0 bel lt0) (trodAll_cons_mk (Below.trod laidOut (by kernel_rfl) (of_decide_eq_true (by kernel_rfl)) h1 bel lt1) trodAll_mk0)), rfl, bel.frame _, fun h => by cases h⟩
theorem over : Rows.hourRisesRow.holds Tryd.pinned (OpenSpec.ofChange Rows.hourRisesSpec) :=
  OpenClaim.holds_of_wide 3 Tryd.f3 rfl rfl rfl rfl rfl rfl rfl ⟨rfl, rfl, rfl, rfl, rfl⟩ rfl rfl rfl rfl rfl (by kernel_rfl) Tryd.func3 (by kernel_rfl)
    (of_decide_eq_true (by kernel_rfl)) (by unfold Func.isWrapper; first | (rw [if_pos (by decide +kernel)]; kernel_rfl) | (rw [if_neg (by decide +kernel)]; exact ⟨rfl, rfl⟩))
    (fun os started H enc _ => lifted os started H enc)
theorem proved : Rows.HourRisesSaid := over
theorem card : Rows.HourRisesCardSaid :=
  Claim7.holds_tied_plain_at .later [] [.data, .data, .data, .data, .sentinel, .sentinel, .pinned] true (true, "0fd052bd8d0f4fe34bdd9b2490d958f690b69942da336df2a6a69d17f1aed430") true over (fun _ h => by cases h) (by kernel_rfl) (fun _ h => by cases h) hourRises_row_tie rfl ⟨rfl, rfl⟩ (by kernel_rfl) rfl
    (fun f fn hf hfn => by
      obtain rfl : f = 3 := Option.some.inj ((show Tryd.prog.funcNamed "postmark/postmarklaw15.HourRises" = some 3 by kernel_rfl).symm.trans hf) |>.symm
      obtain rfl : fn = Tryd.f3 := (Option.some.inj (Tryd.func3.symm.trans hfn)).symm
      exact ⟨by kernel_rfl, fun j t ht => by
        rw [Tryd.params3] at ht
        have hm : t ∈ [22, 22] := by simpa using Array.mem_of_getElem? ht
        have hall : ([22, 22].all fun u => !Tryd.prog.wantsStandIn u) = true := by kernel_rfl
        exact (show Tryd.prog.wantsStandIn t = false by simpa using List.all_eq_true.1 hall t hm)⟩)
    (by kernel_rfl)
#print axioms card
end Go.Proofs.YtfbodageccednaaDoor.hourRises
namespace Go.Proofs.YtfbodageccednaaDoor
/-- The card, under a short name, for the claim. -/
theorem hourRises_holds : Rows.HourRisesCardSaid := hourRises.card
end Go.Proofs.YtfbodageccednaaDoor

