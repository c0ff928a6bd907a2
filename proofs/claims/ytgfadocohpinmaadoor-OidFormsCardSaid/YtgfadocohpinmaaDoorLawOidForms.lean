/- The row and the card of OidForms: the bytes of any numbers, the numbers of any bytes, or the error, and names, are the document's; what is handed in stays, and what is answered is new memory. No condition. -/
import Derived.Test.YtgfadocohpinmaaDoorOaM
import Derived.Test.YtgfadocohpinmaaDoorOaJ
import Derived.Test.YtgfadocohpinmaaDoorVmE
import Derived.Test.YtgfadocohpinmaaDoorRows
import Derived.Test.YtgfadocohpinmaaDoorTie
import Derived.Test.YtgfadocohpinmaaDoorCards
import Derived.WalkKit
import Derived.ProofKit
import Derived.OpenShut
import Derived.ShutString
import Derived.ChangeMaps5
import Derived.ChangeOld
import Derived.Below
import Derived.SizedLaws
import Derived.Lib.SmallJoins
import Derived.Carry
import Derived.LaidMore
import Derived.Lay
import Derived.SevenTiedAt
import Derived.Stop.Joined
set_option linter.unusedVariables false
set_option linter.unusedSimpArgs false
namespace Go.Proofs.YtgfadocohpinmaaDoor.oidForms
open Go.ChangeShapes Go.WideShapes Go.ChangeAt Go.RowKit Go.Joins
theorem laidOut : laidOutB Tryd.prog = true := by kernel_rfl
theorem own : ownKnob Tryd.prog.godebug = none := by kernel_rfl
open Go.Proofs.YtgfadocohpinmaaDoor.Vm Go.Proofs.YtgfadocohpinmaaDoor.Oa in
theorem glob (W : World) (h : laidMetH Tryd.prog Rows.oidFormsRow.laid W) : Glob E1 W (All W) := by
  rw [MakeChecks.laidMetH_plain _ _ _ (by kernel_rfl)] at h
  exact glob1_of h (by simp [Rows.oidFormsRow]) (by simp [Rows.oidFormsRow]) (by simp [Rows.oidFormsRow]) (by simp [Rows.oidFormsRow]) 
open Go.Proofs.YtgfadocohpinmaaDoor.Vm Go.Proofs.YtgfadocohpinmaaDoor.Oa in
theorem calls (l0 : List Nat) (l1 : List UInt8) (l2 : List UInt8) (v0 v1 v2 : Value) (w : World) (hG : Glob E1 w (All w)) (h0 : RV w (All w) (.lst (numsD l0)) v0) (h1 : RV w (All w) (.lst (bytesD l1)) v1) (h2 : RV w (All w) (.str l2) v2) : Calls Tryd.prog 5 #[v0, v1, v2] w fun e w' => e = .returned (.bool true) ∧ Below w.heap.size w w' := by
  refine ((forms_ok w (All w) #[v0, v1, v2] [.lst (numsD l0), .lst (bytesD l1), .str l2] (fun _ _ h => h) hG ?_ (by rw [forms_pre]; trivial)).calls fun _ _ h => by simp [Fw, Fence.wide] at h).mono ?_
  · simp only [RVs]
    exact ⟨_, _, rfl, h0, _, _, rfl, h1, _, _, rfl, h2, rfl⟩
  · rintro e w' ⟨v, rfl, hb, hv⟩
    simp only [forms_res, retD, RVD, RV] at hv
    subst hv
    exact ⟨rfl, hb⟩
set_option maxRecDepth 100000 in
theorem lifted (os : Os) (started : os.Started) (H : Type) (enc : TypeId × Value → H) :
    ReturnsInHanded {} Tryd.checked os 5 .any (fun w args => (Rows.oidFormsSpec.pre enc Tryd.prog Tryd.f5 Rows.oidFormsRow.domain false w args ∧ laidMetH Tryd.prog Rows.oidFormsRow.laid w) ∧ sizedMet enc Tryd.prog Tryd.f5 (OpenSpec.ofChange Rows.oidFormsSpec) false w args)
      (Rows.oidFormsSpec.post enc Tryd.prog Tryd.f5 false true false false) := by
  refine returnsInHanded_of_change_and (C := Tryd.checked) (X := fun w _ => laidMetH Tryd.prog Rows.oidFormsRow.laid w) (fun _ _ _ hh h => h.of_heap hh) own started (by kernel_rfl) Tryd.func5
    (ChangeSpec.witness_shaped (enc := enc) (C := Tryd.checked) (os := os) (X := fun w _ => laidMetH Tryd.prog Rows.oidFormsRow.laid w) false (World.laidAll Tryd.prog os Rows.oidFormsRow.laid) #[.slice none 0 0, .slice none 0 0, .string ⟨#[]⟩] 8 (World.laidAll_os _ _ _)
      (World.shaped_of_ZipB (by kernel_rfl) (by kernel_rfl)) (by kernel_rfl) (by kernel_rfl) (by kernel_rfl)
      (by rw [MakeChecks.laidMetH_plain _ _ _ (by kernel_rfl)]; exact laidMet_laidAll _ (by kernel_rfl) (by kernel_rfl))) ?_
  intro W base args ds gs before hval0 hW hcnd hsz0 hL _
  have hval : ∀ (j : Nat) t v, Tryd.f5.params[j]? = some t → args[j]? = some v → Value.okWide Tryd.prog W .any base t v := hval0
  have hW' := hW
  obtain ⟨p, q, hA0, hV, rfl, hfz, hnd⟩ := hW
  have hA : DataW.TrodAll enc Tryd.prog W 0 (fun _ => true) true Tryd.f5.params.toList args.toList ds p := hA0
  rw [Tryd.params5] at hA hval
  obtain ⟨v0, vs0, d0, ds0, p0, q0, hargs, rfl, rfl, h0, r0⟩ := trodAll_cons hA
  obtain ⟨v1, vs1, d1, ds1, p1, q1, rfl, rfl, rfl, h1, r1⟩ := trodAll_cons r0
  obtain ⟨v2, vs2, d2, ds2, p2, q2, rfl, rfl, rfl, h2, r2⟩ := trodAll_cons r1
  obtain ⟨rfl, rfl, rfl⟩ := trodAll_nil r2
  obtain rfl : args = #[v0, v1, v2] := by cases args; simp_all
  obtain ⟨rfl, rfl⟩ := trodVars_none hV
  have lt0 : ∀ x ∈ p0, x.block < W.heap.size := by obtain ⟨m, hm⟩ := h0; exact DataW.trod_lt m _ _ _ hm
  have lt1 : ∀ x ∈ p1, x.block < W.heap.size := by obtain ⟨m, hm⟩ := h1; exact DataW.trod_lt m _ _ _ hm
  have lt2 : ∀ x ∈ p2, x.block < W.heap.size := by obtain ⟨m, hm⟩ := h2; exact DataW.trod_lt m _ _ _ hm
  obtain ⟨z0, w0, y0, g0⟩ := Go.Proofs.YtgfadocohpinmaaDoor.Vm.open_row Tryd.underlying22 Tryd.underlying36 (by kernel_rfl) (hval 0 22 v0 rfl rfl) h0
  obtain ⟨l0, e0, n0⟩ := Go.Proofs.YtgfadocohpinmaaDoor.Vm.nums_of z0 w0
  rw [e0] at g0
  obtain ⟨z1, w1, y1, g1⟩ := Go.Proofs.YtgfadocohpinmaaDoor.Vm.open_row Tryd.underlying38 Tryd.underlying5 (by kernel_rfl) (hval 1 38 v1 rfl rfl) h1
  obtain ⟨l1, e1, n1⟩ := Go.Proofs.YtgfadocohpinmaaDoor.Vm.bytes_of z1 w1
  rw [e1] at g1
  obtain ⟨s2, rfl, rfl, rfl, z2⟩ := Go.ChangeMaps.open_string Tryd.underlying9 (hval 2 9 v2 rfl rfl) h2
  have g2 : Go.Proofs.YtgfadocohpinmaaDoor.Vm.RV W (Go.Proofs.YtgfadocohpinmaaDoor.Vm.All W) (.str s2.data.toList) (.string s2) := by simp only [Go.Proofs.YtgfadocohpinmaaDoor.Vm.RV]
  refine (calls l0 l1 s2.data.toList v0 v1 (.string s2) W (glob W hL) g0 g1 g2).mono fun e W' ⟨he, bel⟩ => ?_
  subst he
  exact ⟨_, rfl, _, _, _, [], _, [], hW', trodAll_mk1 (shut_bool Tryd.underlying4 _), (trodAll_cons_mk (Below.trod laidOut (by kernel_rfl) (of_decide_eq_true (by kernel_rfl)) h0 bel lt0) (trodAll_cons_mk (Below.trod laidOut (by kernel_rfl) (of_decide_eq_true (by kernel_rfl)) h1 bel lt1) (trodAll_cons_mk (Below.trod laidOut (by kernel_rfl) (of_decide_eq_true (by kernel_rfl)) h2 bel lt2) trodAll_mk0))), rfl, bel.frame _, fun h => by cases h⟩
theorem over : Rows.oidFormsRow.holds Tryd.pinned (OpenSpec.ofChange Rows.oidFormsSpec) :=
  OpenClaim.holds_of_wide 5 Tryd.f5 rfl rfl rfl rfl rfl rfl rfl ⟨rfl, rfl, rfl, rfl, rfl⟩ rfl rfl rfl rfl rfl (by kernel_rfl) Tryd.func5 (by kernel_rfl)
    (of_decide_eq_true (by kernel_rfl)) (by unfold Func.isWrapper; first | (rw [if_pos (by decide +kernel)]; kernel_rfl) | (rw [if_neg (by decide +kernel)]; exact ⟨rfl, rfl⟩))
    (fun os started H enc _ => lifted os started H enc)
theorem proved : Rows.OidFormsSaid := over
theorem card : Rows.OidFormsCardSaid :=
  Claim7.holds_tied_plain_at .later [] [.data, .data, .data, .data, .sentinel, .sentinel, .data, .pinned] true (true, "d52c236acdd925ac7c657b39964abf63ad4e5595c07a2899e3d5f3c9ce037382") true over (fun _ h => by cases h) (by kernel_rfl) (fun _ h => by cases h) oidForms_row_tie rfl ⟨rfl, rfl⟩ (by kernel_rfl) rfl
    (fun f fn hf hfn => by
      obtain rfl : f = 5 := Option.some.inj ((show Tryd.prog.funcNamed "postmark/postmarklaw14.OidForms" = some 5 by kernel_rfl).symm.trans hf) |>.symm
      obtain rfl : fn = Tryd.f5 := (Option.some.inj (Tryd.func5.symm.trans hfn)).symm
      exact ⟨by kernel_rfl, fun j t ht => by
        rw [Tryd.params5] at ht
        have hm : t ∈ [22, 38, 9] := by simpa using Array.mem_of_getElem? ht
        have hall : ([22, 38, 9].all fun u => !Tryd.prog.wantsStandIn u) = true := by kernel_rfl
        exact (show Tryd.prog.wantsStandIn t = false by simpa using List.all_eq_true.1 hall t hm)⟩)
    (by kernel_rfl)
#print axioms card
end Go.Proofs.YtgfadocohpinmaaDoor.oidForms
namespace Go.Proofs.YtgfadocohpinmaaDoor
/-- The card, under a short name, for the claim. -/
theorem oidForms_holds : Rows.OidFormsCardSaid := oidForms.card
end Go.Proofs.YtgfadocohpinmaaDoor

