/- The row and the card of OidTexts: whether any numbers may be, their text, and the numbers of any text, or the error, are the document's; what is handed in stays. No condition. -/
import Derived.Test.YtgfadocohpinmaaDoorOaL
import Derived.Test.YtgfadocohpinmaaDoorOaD
import Derived.Test.YtgfadocohpinmaaDoorVmE
import Derived.Test.YtgfadocohpinmaaDoorRows
import Derived.Test.YtgfadocohpinmaaDoorTie
import Derived.Test.YtgfadocohpinmaaDoorCards
import Derived.WalkKit
import Derived.ProofKit
import Derived.OpenShut
import Derived.ShutString
import Derived.ChangeMaps5
import Derived.ChangeOld
import Derived.Below
import Derived.SizedLaws
import Derived.Lib.SmallJoins
import Derived.Carry
import Derived.LaidMore
import Derived.Lay
import Derived.SevenTiedAt
import Derived.Stop.Joined
set_option linter.unusedVariables false
set_option linter.unusedSimpArgs false
namespace Go.Proofs.YtgfadocohpinmaaDoor.oidTexts
open Go.ChangeShapes Go.WideShapes Go.ChangeAt Go.RowKit Go.Joins
theorem laidOut : laidOutB Tryd.prog = true := by kernel_rfl
theorem own : ownKnob Tryd.prog.godebug = none := by kernel_rfl
open Go.Proofs.YtgfadocohpinmaaDoor.Vm Go.Proofs.YtgfadocohpinmaaDoor.Oa in
theorem glob (W : World) (h : laidMetH Tryd.prog Rows.oidTextsRow.laid W) : Glob E W (All W) := by
  rw [MakeChecks.laidMetH_plain _ _ _ (by kernel_rfl)] at h
  exact glob_of h (by simp [Rows.oidTextsRow]) (by simp [Rows.oidTextsRow]) (by simp [Rows.oidTextsRow]) 
open Go.Proofs.YtgfadocohpinmaaDoor.Vm Go.Proofs.YtgfadocohpinmaaDoor.Oa in
theorem calls (l0 : List Nat) (l1 : List UInt8) (v0 v1 : Value) (w : World) (hG : Glob E w (All w)) (h0 : RV w (All w) (.lst (numsD l0)) v0) (h1 : RV w (All w) (.str l1) v1) : Calls Tryd.prog 3 #[v0, v1] w fun e w' => e = .returned (.bool true) ∧ Below w.heap.size w w' := by
  refine ((texts_ok w (All w) #[v0, v1] [.lst (numsD l0), .str l1] (fun _ _ h => h) hG ?_ (by rw [texts_pre]; trivial)).calls fun _ _ h => by simp [Fw, Fence.wide] at h).mono ?_
  · simp only [RVs]
    exact ⟨_, _, rfl, h0, _, _, rfl, h1, rfl⟩
  · rintro e w' ⟨v, rfl, hb, hv⟩
    simp only [texts_res, retD, RVD, RV] at hv
    subst hv
    exact ⟨rfl, hb⟩
set_option maxRecDepth 100000 in
theorem lifted (os : Os) (started : os.Started) (H : Type) (enc : TypeId × Value → H) :
    ReturnsInHanded {} Tryd.checked os 3 .any (fun w args => (Rows.oidTextsSpec.pre enc Tryd.prog Tryd.f3 Rows.oidTextsRow.domain false w args ∧ laidMetH Tryd.prog Rows.oidTextsRow.laid w) ∧ sizedMet enc Tryd.prog Tryd.f3 (OpenSpec.ofChange Rows.oidTextsSpec) false w args)
      (Rows.oidTextsSpec.post enc Tryd.prog Tryd.f3 false true false false) := by
  refine returnsInHanded_of_change_and (C := Tryd.checked) (X := fun w _ => laidMetH Tryd.prog Rows.oidTextsRow.laid w) (fun _ _ _ hh h => h.of_heap hh) own started (by kernel_rfl) Tryd.func3
    (ChangeSpec.witness_shaped (enc := enc) (C := Tryd.checked) (os := os) (X := fun w _ => laidMetH Tryd.prog Rows.oidTextsRow.laid w) false (World.laidAll Tryd.prog os Rows.oidTextsRow.laid) #[.slice none 0 0, .string ⟨#[]⟩] 8 (World.laidAll_os _ _ _)
      (World.shaped_of_ZipB (by kernel_rfl) (by kernel_rfl)) (by kernel_rfl) (by kernel_rfl) (by kernel_rfl)
      (by rw [MakeChecks.laidMetH_plain _ _ _ (by kernel_rfl)]; exact laidMet_laidAll _ (by kernel_rfl) (by kernel_rfl))) ?_
  intro W base args ds gs before hval0 hW hcnd hsz0 hL _
  have hval : ∀ (j : Nat) t v, Tryd.f3.params[j]? = some t → args[j]? = some v → Value.okWide Tryd.prog W .any base t v := hval0
  have hW' := hW
  obtain ⟨p, q, hA0, hV, rfl, hfz, hnd⟩ := hW
  have hA : DataW.TrodAll enc Tryd.prog W 0 (fun _ => true) true Tryd.f3.params.toList args.toList ds p := hA0
  rw [Tryd.params3] at hA hval
  obtain ⟨v0, vs0, d0, ds0, p0, q0, hargs, rfl, rfl, h0, r0⟩ := trodAll_cons hA
  obtain ⟨v1, vs1, d1, ds1, p1, q1, rfl, rfl, rfl, h1, r1⟩ := trodAll_cons r0
  obtain ⟨rfl, rfl, rfl⟩ := trodAll_nil r1
  obtain rfl : args = #[v0, v1] := by cases args; simp_all
  obtain ⟨rfl, rfl⟩ := trodVars_none hV
  have lt0 : ∀ x ∈ p0, x.block < W.heap.size := by obtain ⟨m, hm⟩ := h0; exact DataW.trod_lt m _ _ _ hm
  have lt1 : ∀ x ∈ p1, x.block < W.heap.size := by obtain ⟨m, hm⟩ := h1; exact DataW.trod_lt m _ _ _ hm
  obtain ⟨z0, w0, y0, g0⟩ := Go.Proofs.YtgfadocohpinmaaDoor.Vm.open_row Tryd.underlying22 Tryd.underlying36 (by kernel_rfl) (hval 0 22 v0 rfl rfl) h0
  obtain ⟨l0, e0, n0⟩ := Go.Proofs.YtgfadocohpinmaaDoor.Vm.nums_of z0 w0
  rw [e0] at g0
  obtain ⟨s1, rfl, rfl, rfl, z1⟩ := Go.ChangeMaps.open_string Tryd.underlying9 (hval 1 9 v1 rfl rfl) h1
  have g1 : Go.Proofs.YtgfadocohpinmaaDoor.Vm.RV W (Go.Proofs.YtgfadocohpinmaaDoor.Vm.All W) (.str s1.data.toList) (.string s1) := by simp only [Go.Proofs.YtgfadocohpinmaaDoor.Vm.RV]
  refine (calls l0 s1.data.toList v0 (.string s1) W (glob W hL) g0 g1).mono fun e W' ⟨he, bel⟩ => ?_
  subst he
  exact ⟨_, rfl, _, _, _, [], _, [], hW', trodAll_mk1 (shut_bool Tryd.underlying4 _), (trodAll_cons_mk (Below.trod laidOut (by kernel_rfl) (of_decide_eq_true (by kernel_rfl)) h0 bel lt0) (trodAll_cons_mk (Below.trod laidOut (by kernel_rfl) (of_decide_eq_true (by kernel_rfl)) h1 bel lt1) trodAll_mk0)), rfl, bel.frame _, fun h => by cases h⟩
theorem over : Rows.oidTextsRow.holds Tryd.pinned (OpenSpec.ofChange Rows.oidTextsSpec) :=
  OpenClaim.holds_of_wide 3 Tryd.f3 rfl rfl rfl rfl rfl rfl rfl ⟨rfl, rfl, rfl, rfl, rfl⟩ rfl rfl rfl rfl rfl (by kernel_rfl) Tryd.func3 (by kernel_rfl)
    (of_decide_eq_true (by kernel_rfl)) (by unfold Func.isWrapper; first | (rw [if_pos (by decide +kernel)]; kernel_rfl) | (rw [if_neg (by decide +kernel)]; exact ⟨rfl, rfl⟩))
    (fun os started H enc _ => lifted os started H enc)
theorem proved : Rows.OidTextsSaid := over
theorem card : Rows.OidTextsCardSaid :=
  Claim7.holds_tied_plain_at .later [] [.data, .data, .data, .data, .sentinel, .sentinel, .pinned] true (true, "d52c236acdd925ac7c657b39964abf63ad4e5595c07a2899e3d5f3c9ce037382") true over (fun _ h => by cases h) (by kernel_rfl) (fun _ h => by cases h) oidTexts_row_tie rfl ⟨rfl, rfl⟩ (by kernel_rfl) rfl
    (fun f fn hf hfn => by
      obtain rfl : f = 3 := Option.some.inj ((show Tryd.prog.funcNamed "postmark/postmarklaw14.OidTexts" = some 3 by kernel_rfl).symm.trans hf) |>.symm
      obtain rfl : fn = Tryd.f3 := (Option.some.inj (Tryd.func3.symm.trans hfn)).symm
      exact ⟨by kernel_rfl, fun j t ht => by
        rw [Tryd.params3] at ht
        have hm : t ∈ [22, 9] := by simpa using Array.mem_of_getElem? ht
        have hall : ([22, 9].all fun u => !Tryd.prog.wantsStandIn u) = true := by kernel_rfl
        exact (show Tryd.prog.wantsStandIn t = false by simpa using List.all_eq_true.1 hall t hm)⟩)
    (by kernel_rfl)
#print axioms card
end Go.Proofs.YtgfadocohpinmaaDoor.oidTexts
namespace Go.Proofs.YtgfadocohpinmaaDoor
/-- The card, under a short name, for the claim. -/
theorem oidTexts_holds : Rows.OidTextsCardSaid := oidTexts.card
end Go.Proofs.YtgfadocohpinmaaDoor

