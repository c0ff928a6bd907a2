/- For any two lists of 64-bit numbers: two object identifiers have the same bytes just if they have the same numbers, and the bytes of the first numbers are the beginning of all: the row of OidApart. No condition. -/
import Derived.Test.YtgfadocohpinmaaRows
import Derived.Test.YtgfadocohpinmaaOaD
import Derived.WalkKit
import Derived.ProofKit
import Derived.OpenShut
import Derived.ShutString
import Derived.ChangeOld
import Derived.Below
import Derived.SizedLaws
import Derived.Lib.SmallJoins
import Derived.Carry
namespace Go.Proofs.Ytgfadocohpinmaa.oidApart
open Go.ChangeShapes Go.WideShapes Go.ChangeAt Go.RowKit Go.Joins
set_option linter.unusedVariables false
theorem laidOut : laidOutB Try.prog = true := by kernel_rfl
theorem own : ownKnob Try.prog.godebug = none := by kernel_rfl
open Go.Proofs.Ytgfadocohpinmaa.Vm Go.Proofs.Ytgfadocohpinmaa.Oa in
theorem calls (l m : List Nat) (v0 v1 : Value) (w : World) (h0 : RV w (All w) (.lst (numsD l)) v0) (h1 : RV w (All w) (.lst (numsD m)) v1) : Calls Try.prog 3 #[v0, v1] w fun e w' => e = .returned (.bool true) ∧ Below w.heap.size w w' := by
  refine ((apart_ok w (All w) #[v0, v1] [.lst (numsD l), .lst (numsD m)] (fun _ _ h => h) (fun g cs h => by cases h) ?_ (by rw [apart_pre]; trivial)).calls fun _ _ h => by simp [Fw, Fence.wide] at h).mono ?_
  · simp only [RVs]
    exact ⟨_, _, rfl, h0, _, _, rfl, h1, rfl⟩
  · rintro e w' ⟨v, rfl, hb, hv⟩
    simp only [apart_res, retD, RVD, RV] at hv
    subst hv
    exact ⟨rfl, hb⟩
set_option maxRecDepth 100000 in
theorem lifted (os : Os) (started : os.Started) (H : Type) (enc : TypeId × Value → H) :
    ReturnsInHanded {} Try.checked os 3 .any (Rows.oidApartSpec.pre6 enc Try.prog Try.f3 Rows.oidApartRow.domain false) (Rows.oidApartSpec.post enc Try.prog Try.f3 false true false false) := by
  refine returnsInHanded_of_change_sized (C := Try.checked) own started (by kernel_rfl) Try.func3
    (ChangeSpec.witness6 (enc := enc) (C := Try.checked) false ⟨#[], #[.slice none 0 0, .slice none 0 0], []⟩ 8 (by kernel_rfl) (by kernel_rfl) (by kernel_rfl) (by kernel_rfl)) ?_
  intro W base args ds gs before hval0 hW hcnd hsz0 _
  have hval : ∀ (j : Nat) t v, Try.f3.params[j]? = some t → args[j]? = some v → Value.okWide Try.prog W .any base t v := hval0
  have hW' := hW
  obtain ⟨p, q, hA0, hV, rfl, hfz, hnd⟩ := hW
  have hA : DataW.TrodAll enc Try.prog W 0 (fun _ => true) true Try.f3.params.toList args.toList ds p := hA0
  rw [Try.params3] at hA hval
  obtain ⟨v0, vs0, d0, ds0, p0, q0, hargs, rfl, rfl, h0, r0⟩ := trodAll_cons hA
  obtain ⟨v1, vs1, d1, ds1, p1, q1, rfl, rfl, rfl, h1, r1⟩ := trodAll_cons r0
  obtain ⟨rfl, rfl, rfl⟩ := trodAll_nil r1
  obtain rfl : args = #[v0, v1] := by cases args; simp_all
  obtain ⟨rfl, rfl⟩ := trodVars_none hV
  have lt0 : ∀ x ∈ p0, x.block < W.heap.size := by obtain ⟨m, hm⟩ := h0; exact DataW.trod_lt m _ _ _ hm
  have lt1 : ∀ x ∈ p1, x.block < W.heap.size := by obtain ⟨m, hm⟩ := h1; exact DataW.trod_lt m _ _ _ hm
  obtain ⟨z0, w0, y0, g0⟩ := Go.Proofs.Ytgfadocohpinmaa.Vm.open_row Try.underlying22 Try.underlying32 (by kernel_rfl) (hval 0 22 v0 rfl rfl) h0
  obtain ⟨z1, w1, y1, g1⟩ := Go.Proofs.Ytgfadocohpinmaa.Vm.open_row Try.underlying22 Try.underlying32 (by kernel_rfl) (hval 1 22 v1 rfl rfl) h1
  obtain ⟨l0, e0, n0⟩ := Go.Proofs.Ytgfadocohpinmaa.Vm.nums_of z0 w0
  obtain ⟨l1, e1, n1⟩ := Go.Proofs.Ytgfadocohpinmaa.Vm.nums_of z1 w1
  rw [e0] at g0
  rw [e1] at g1
  refine (calls l0 l1 v0 v1 W g0 g1).mono fun e W' ⟨he, bel⟩ => ?_
  subst he
  exact ⟨_, rfl, _, _, _, [], _, [], hW', trodAll_mk1 (shut_bool Try.underlying4 _), (trodAll_cons_mk (Below.trod laidOut (by kernel_rfl) (of_decide_eq_true (by kernel_rfl)) h0 bel lt0) (trodAll_cons_mk (Below.trod laidOut (by kernel_rfl) (of_decide_eq_true (by kernel_rfl)) h1 bel lt1) trodAll_mk0)), rfl, bel.frame _, fun h => by cases h⟩
theorem over : Rows.oidApartRow.holds Try.pinned (OpenSpec.ofChange Rows.oidApartSpec) :=
  OpenClaim.holds_of_wide 3 Try.f3 rfl rfl rfl rfl rfl rfl rfl ⟨rfl, rfl, rfl, rfl, rfl⟩ rfl rfl rfl rfl rfl (by kernel_rfl) Try.func3 (by kernel_rfl)
    (of_decide_eq_true (by kernel_rfl)) (by unfold Func.isWrapper; first | (rw [if_pos (by decide +kernel)]; kernel_rfl) | (rw [if_neg (by decide +kernel)]; exact ⟨rfl, rfl⟩))
    (fun os started H enc _ => lifted os started H enc)
theorem proved : Rows.OidApartSaid := over
#print axioms proved
end Go.Proofs.Ytgfadocohpinmaa.oidApart
namespace Go.Proofs.Ytgfadocohpinmaa
/-- The row, under a short name, for the claim. -/
theorem oidApart_holds : Rows.OidApartSaid := oidApart.proved
end Go.Proofs.Ytgfadocohpinmaa
